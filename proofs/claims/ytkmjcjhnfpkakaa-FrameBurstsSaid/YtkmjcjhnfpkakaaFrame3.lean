/- Contracts: frame.Seal. -/
import Derived.Test.YtkmjcjhnfpkakaaFrame2
import Derived.Deep.DeepMust
set_option linter.unusedVariables false
set_option linter.unusedSimpArgs false
namespace Go.Proofs.Ytkmjcjhnfpkakaa
open Go Go.RowKit

/-- A body's frame. -/
def sealB (b : List UInt8) : List UInt8 := le32 b.length ++ b ++ le32 (crcSum (le32 b.length ++ b)).toNat
/-- .. or nothing, if it is too long. -/
def sealO (b : List UInt8) : List UInt8 := if b.length ≤ 262144 then sealB b else []
theorem flat_take_le {α : Type} (ls : List (List α)) (k : Nat) : (ls.take k).flatten.length ≤ ls.flatten.length := by
  conv => rhs; rw [← List.take_append_drop k ls]
  rw [List.flatten_append, List.length_append]; omega

def SealPost (e8 : Nat) (w : World) (b : List UInt8) (e : Ending) (w' : World) : Prop := ∃ v, e = .returned v ∧ Own kb e8 w' w.heap.size (fun _ => False) v (sealO b) ∧ Below w.heap.size w w'

set_option maxHeartbeats 2000000 in
theorem Seal_calls (A : Option Addr) (c : Nat) (ls : List (List UInt8)) (w : World) (hn : ls.length ≤ maxLen) (hi : ∀ x ∈ ls, x.length ≤ 1099511627776) (hr : Row (slk kb) w (fun k => k < w.heap.size) A ls) :
    Calls Try.prog 15 #[.slice A ls.length c] w (SealPost 5 w ls.flatten) := by
  have hn' := hn
  unfold maxLen at hn
  go_enter Try.func15, Try.ntmps15
  go_wp2
  go_loop [3, 11] (fun s' i => ∃ (k : Nat), k ≤ ls.length ∧ i = .int .i64 k ∧ s' = .int .i64 (ls.take k).flatten.length ∧ (ls.take k).flatten.length ≤ 262144) (fun _ i => ls.length - (intOf i).toNat)
  case atStart => exact ⟨0, Nat.zero_le _, rfl, rfl, by simp⟩
  case round =>
    obtain ⟨k, hk, rfl, rfl, hsm⟩ := hrel
    by_cases hlt : k < ls.length
    · obtain ⟨ad, B, cb, rfl, hcell, hB, hm, hrow⟩ := hr.sl_at k hlt
      have hm' : ls[k].length ≤ 1099511627776 := hi _ (List.getElem_mem _)
      have hfl : (ls.take (k+1)).flatten.length = (ls.take k).flatten.length + ls[k].length := by rw [flat_snoc ls k hlt, List.length_append]
      have hle := flat_take_le ls (k+1)
      have Hfl := Lib.hid hfl
      rw [hfl] at hle
      clear hfl
      generalize (ls.take k).flatten.length = n at *
      by_cases hbig : n + ls[k].length ≤ 262144
      · go_wp2
        go_round
        case rel => exact ⟨k+1, hlt, by go_num, by rw [Hfl.out]; go_num, by rw [Hfl.out]; exact hbig⟩
        case measure => simp [intOf]; omega
      · have hb : sealO ls.flatten = [] := by unfold sealO; rw [if_neg (by omega)]
        have Hb := Lib.hid hb
        clear hb
        go_wp2
        go_ret
        exact ⟨_, rfl, by rw [Hb.out]; exact Own.nil _ _ _ _ _, Below.refl _ _⟩
    · obtain rfl : k = ls.length := by omega
      rw [List.take_length] at hsm ⊢
      have hso : sealO ls.flatten = sealB ls.flatten := by unfold sealO; rw [if_pos hsm]
      have Hso := Lib.hid hso
      clear hso
      have hlen := Lib.hid (show (ls.flatten.length : Int) = ls.flatten.length from rfl)
      generalize hB : ls.flatten = b at *
      have Hb := Lib.hid hB
      clear hB
      go_wp2_with (refine make_own kb rfl 24 5 1 .i64 .i64 _ _ (b.length + 8 : Int) rfl rfl rfl Try.underlying24 info_u8 (by omega) (by omega) (by simp [maxLen]; omega) ?_; intro v1 w1 ho hg ha)
      have HB := (Below.refl w.heap.size w).grown hg (Nat.le_refl _) (by intro k hk; cases hk)
      refine (four_calls _ (by omega) (by omega) _).mono ?_
      rintro e w2 ⟨vf, rfl, hof, hbf⟩
      have HB := HB.trans (hbf.mono HB.size)
      have ho := ho.below hbf
      rw [Int.toNat_natCast] at hof
      have hnn : b.length = ls.flatten.length := by rw [Hb.out]
      have Hnn := Lib.hid hnn
      clear hnn
      go_wp2_with (at_builtin; go_must (refine app_flat kb flat_kb w.heap.size rfl (.tmp 25) (.tmp 28) 24 5 1 rfl Try.underlying24 info_u8 v1 vf [] _ _ _ rfl rfl ho hof.sl (by simp [le32]) (by simp [le32, maxLen]) HB.size ?_; intro v3 w3 ho hg ha3))
      have HB := HB.grown hg HB.size (fun k hk => by rw [hk] at ha; cases ha; exact Nat.le_refl _)
      rw [List.nil_append] at ho
      go_wp2
      go_loopw [6, 32] (fun v i w' => ∃ (k : Nat), k ≤ ls.length ∧ i = .int .i64 k ∧ Own kb 5 w' w.heap.size (fun _ => False) v (le32 b.length ++ (ls.take k).flatten) ∧ Below w.heap.size w w') (fun _ i _ => ls.length - (intOf i).toNat)
      case atStart => exact ⟨0, Nat.zero_le _, rfl, by simpa using ho, HB⟩
      case round =>
        obtain ⟨k, hk, rfl, ho, HB⟩ := hrel
        by_cases hlt : k < ls.length
        · obtain ⟨ad, B, cb, rfl, hcell, hB, hm, hrow⟩ := (hr.belowF (fun _ h => h) HB).sl_at k hlt
          have hm' : ls[k].length ≤ 1099511627776 := hi _ (List.getElem_mem _)
          have hle := flat_take_le ls k
          have Hfl := Lib.hid (flat_snoc ls k hlt)
          rw [← Hnn.out] at hle
          have hsl : Sl kb wr (fun k => k < w.heap.size) (.slice B ls[k].length cb) ls[k] := ⟨B, cb, rfl, hB, hm, hrow⟩
          have hll : (le32 b.length ++ (ls.take k).flatten).length = 4 + (ls.take k).flatten.length := by rw [List.length_append, le32_length]
          have Hll := Lib.hid hll
          clear hll
          go_wp2_with (at_builtin; go_must (refine app_flat kb flat_kb w.heap.size rfl (.tmp 36) (.tmp 37) 24 5 1 rfl Try.underlying24 info_u8 u6 _ _ _ _ _ rfl rfl ho hsl (by rw [Hll.out]; omega) (by rw [Hll.out]; simp only [maxLen]; omega) HB.size ?_; intro v4 w4 ho' hg ha4))
          go_roundw
          case rel => exact ⟨k+1, hlt, by go_num, by rw [Hfl.out, ← List.append_assoc]; exact ho', HB.grown hg HB.size (fun k hk => (ho.at hk).1)⟩
          case measure => simp [intOf]; omega
        · obtain rfl : k = ls.length := by omega
          rw [List.take_length, Hb.out] at ho
          have hlb : (le32 b.length ++ b).length = b.length + 4 := by rw [List.length_append, le32_length]; omega
          have hsb : sealO b = (le32 b.length ++ b) ++ le32 (crcSum (le32 b.length ++ b)).toNat := by rw [Hso.out]; rfl
          generalize le32 b.length ++ b = q at *
          have Hlb := Lib.hid hlb
          clear hlb
          have Hsb := Lib.hid hsb
          clear hsb
          obtain ⟨Au, cu, rfl, _, _⟩ := ho.slice
          have hlit := Own.lit (d := slk kb) (e := 24) wr (Nat.le_refl _) (F := fun k => (Value.slice Au q.length cu).ownBlock = some k) [.slice Au q.length cu] [q] 1 rfl (by decide) (Reps.single rfl ⟨_, rfl, (ho.sl.alloc _).mono fun k hk => hk.resolve_left id⟩)
          have Hlit := Lib.hid hlit
          clear hlit
          go_wp2_with fail
          obtain ⟨A1, c1, e1, h1, h2, hrow⟩ := Hlit.out.sl
          cases e1
          refine (Sum_calls _ _ _ _ _ (by simp [maxLen]) hrow).mono ?_
          rintro e w5 ⟨rfl, rfl⟩
          go_wp2_with fail
          refine (four_calls _ (by omega) (by have := (crcSum q).toNat_lt; omega) _).mono ?_
          rintro e w6 ⟨vg, rfl, hog, hbg⟩
          have hb1 : Below wr.heap.size wr w6 := ((Below.refl _ _).alloc (Nat.le_refl _) _).trans (hbg.mono (by simp))
          have ho := ho.below hb1
          have HB := HB.trans (hb1.mono HB.size)
          rw [Int.toNat_natCast] at hog
          go_wp2_with (at_builtin; go_must (refine app_flat kb flat_kb w.heap.size rfl (.tmp 40) (.tmp 44) 24 5 1 rfl Try.underlying24 info_u8 (.slice Au q.length cu) vg _ _ _ _ rfl rfl ho hog.sl (by rw [Hlb.out, le32_length]; omega) (by rw [Hlb.out, le32_length]; simp only [maxLen]; omega) HB.size ?_; intro v7 w7 ho' hg ha7))
          go_ret
          exact ⟨_, rfl, by rw [Hsb.out]; exact ho', HB.grown hg HB.size (fun k hk => (ho.at hk).1)⟩
end Go.Proofs.Ytkmjcjhnfpkakaa
