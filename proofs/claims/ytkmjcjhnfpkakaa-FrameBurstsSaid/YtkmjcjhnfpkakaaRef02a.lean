/- Contracts of the references: four, Seal. -/
import Derived.Test.YtkmjcjhnfpkakaaRefSum
import Derived.Test.YtkmjcjhnfpkakaaBase2
import Derived.Test.YtkmjcjhnfpkakaaRegion
import Derived.IntWalk
set_option linter.unusedVariables false
set_option linter.unusedSimpArgs false
namespace Go.Proofs.Ytkmjcjhnfpkakaa
open Go Go.RowKit

theorem le32_take (n : Nat) (k : Nat) (hk : k < 4) : (le32 n).take (k + 1) = (le32 n).take k ++ [UInt8.ofNat (n / 256 ^ k)] := by
  rcases k with _ | _ | _ | _ | k
  · simp [le32]
  · rfl
  · rfl
  · rfl
  · omega
theorem byte_of (n : Nat) : (n : Int) % 256 = ((UInt8.ofNat n).toNat : Int) := by simp

set_option maxHeartbeats 1000000 in
set_option maxRecDepth 20000 in
theorem RFour_calls (x : Int) (h0 : 0 ≤ x) (h1 : x < 4294967296) (w : World) :
    Calls Try.prog 25 #[.int .u32 x] w fun e w' => ∃ v, e = .returned v ∧ Own kb 5 w' w.heap.size (fun _ => False) v (le32 x.toNat) ∧ Below w.heap.size w w' := by
  obtain ⟨n, rfl⟩ := Int.eq_ofNat_of_zero_le h0
  have hn : n < 4294967296 := by omega
  clear h0 h1
  go_enter Try.func25, Try.ntmps25
  go_wp2
  go_loopw [0, 3, 4] (fun x v i w' => ∃ (k m : Nat), k ≤ 4 ∧ i = .int .i64 k ∧ x = .int .u32 m ∧ m < 4294967296 ∧ Hid (m = n / 256 ^ k) ∧ Own kb 5 w' w.heap.size (fun _ => False) v ((le32 n).take k) ∧ Below w.heap.size w w') (fun _ _ i _ => 4 - (intOf i).toNat)
  case atStart => exact ⟨0, n, by omega, rfl, rfl, by omega, Lib.hid (by simp), Own.nil _ _ _ _ _, Below.refl _ _⟩
  case round =>
    obtain ⟨k, m, hk, rfl, rfl, hm, Hm, ho, hB⟩ := hrel
    by_cases hlt : k < 4
    · have Ht := Lib.hid (le32_take n k hlt)
      have hl : ((le32 n).take k).length ≤ 4 := by rw [List.length_take, le32_length]; omega
      have Hm2 : Hid (m / 256 = n / 256 ^ (k + 1)) := Lib.hid (by rw [Hm.out, Nat.div_div_eq_div_mul, Nat.pow_succ])
      generalize (le32 n).take k = pre at *
      have hlit : ∀ W, kb.K W (fun _ => False) (UInt8.ofNat m) [.int .u8 ((m : Int) % 256)] := fun W => ⟨by rw [byte_of], trivial⟩
      have Hlit := Lib.hid hlit
      clear hlit
      go_wp2_with (at_builtin; go_must (refine app_onef kb flat_kb w.heap.size rfl (.tmp 9) (.tmp 13) 24 5 1 rfl Try.underlying24 info_u8 u3 pre (UInt8.ofNat m) wr.heap.size [.int .u8 ((m : Int) % 256)] (fun _ => False) rfl rfl (ho.alloc _) (cell_one_new _ _ _) (Hlit.out _) (by omega) (by simp only [maxLen]; omega) (by have := hB.size; simp; omega) ?_; intro v4 w4 ho4 hg ha4))
      go_roundw
      case rel => exact ⟨k + 1, m / 256, by omega, by go_num, by go_num, by omega, Hm2, by rw [Ht.out, ← Hm.out]; exact ho4, (blw_alloc hB _).grown hg (by have := hB.size; simp; omega) (fun k hk => (ho.at hk).1)⟩
      case measure => simp [intOf]; omega
    · obtain rfl : k = 4 := by omega
      go_wp2
      go_ret
      exact ⟨_, rfl, by rw [Int.toNat_natCast]; exact ho, hB⟩

set_option maxHeartbeats 1000000 in
theorem RSeal_calls (A : Option Addr) (c : Nat) (b : List UInt8) (w : World) (hl : b.length ≤ 1099511627776) (hc : b.length ≤ c) (hm : c ≤ maxLen) (hr : Row kb w (fun k => k < w.heap.size) A b) :
    Calls Try.prog 16 #[.slice A b.length c] w (SealPost 5 w b) := by
  have hm' := hm
  unfold maxLen at hm'
  by_cases hbig : b.length ≤ 262144
  · have hlb : (le32 b.length ++ b).length = b.length + 4 := by rw [List.length_append, le32_length]; omega
    have hsb : sealO b = (le32 b.length ++ b) ++ le32 (crcSum (le32 b.length ++ b)).toNat := by unfold sealO; rw [if_pos hbig]; rfl
    have Hsb := Lib.hid hsb
    clear hsb
    have hns := u32_uns
    go_enter Try.func16, Try.ntmps16
    go_wp2_with fail
    refine (RFour_calls _ (by omega) (by omega) _).mono ?_
    rintro e w1 ⟨vf, rfl, hof, hbf⟩
    rw [Int.toNat_natCast] at hof
    have hsl : Sl kb w1 (fun k => k < w1.heap.size) (.slice A b.length c) b := ⟨A, c, rfl, hc, hm, (hr.below hbf).lt⟩
    go_wp2_with (at_builtin; go_must (refine app_flat kb flat_kb w.heap.size rfl (.tmp 11) (.tmp 12) 24 5 1 rfl Try.underlying24 info_u8 vf _ (le32 b.length) b _ _ rfl rfl hof hsl (by rw [le32_length]; omega) (by rw [le32_length]; simp only [maxLen]; omega) hbf.size ?_; intro v3 w3 ho hg ha3))
    have HB := hbf.grown hg hbf.size (fun k hk => (hof.at hk).1)
    generalize le32 b.length ++ b = q at *
    have Hlb := Lib.hid hlb
    clear hlb
    obtain ⟨A3, c3, e1, h13, hm3, hr3⟩ := ho.lt
    subst e1
    go_wp2_with fail
    refine (RSum_calls A3 c3 q w3 (by rw [Hlb.out]; omega) h13 hm3 hr3).mono ?_
    rintro e w4 ⟨rfl, hb4⟩
    have ho := ho.below hb4
    have HB := HB.trans (hb4.mono HB.size)
    go_wp2_with fail
    refine (RFour_calls _ (by omega) (by have := (crcSum q).toNat_lt; omega) _).mono ?_
    rintro e w5 ⟨vg, rfl, hog, hbg⟩
    rw [Int.toNat_natCast] at hog
    have ho := ho.below hbg
    have HB := HB.trans (hbg.mono HB.size)
    go_wp2_with (at_builtin; go_must (refine app_flat kb flat_kb w.heap.size rfl (.tmp 14) (.tmp 17) 24 5 1 rfl Try.underlying24 info_u8 _ vg q _ _ _ rfl rfl ho hog.sl (by rw [Hlb.out, le32_length]; omega) (by rw [Hlb.out, le32_length]; simp only [maxLen]; omega) HB.size ?_; intro v6 w6 ho6 hg6 ha6))
    go_ret
    exact ⟨_, rfl, by rw [Hsb.out]; exact ho6, HB.grown hg6 HB.size (fun k hk => (ho.at hk).1)⟩
  · have hsb : sealO b = [] := by unfold sealO; rw [if_neg hbig]
    have Hsb := Lib.hid hsb
    clear hsb
    go_enter Try.func16, Try.ntmps16
    go_wp2
    go_ret
    exact ⟨_, rfl, by rw [Hsb.out]; exact Own.nil _ _ _ _ _, Below.refl _ _⟩
end Go.Proofs.Ytkmjcjhnfpkakaa
