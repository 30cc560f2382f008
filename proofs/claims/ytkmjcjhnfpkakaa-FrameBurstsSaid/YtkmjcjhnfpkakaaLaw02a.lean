/- Contracts of the law's own helpers: short, few, all. -/
import Derived.Test.YtkmjcjhnfpkakaaRefSum
import Derived.Test.YtkmjcjhnfpkakaaBase2
set_option linter.unusedVariables false
set_option linter.unusedSimpArgs false
namespace Go.Proofs.Ytkmjcjhnfpkakaa
open Go Go.RowKit

def shortL (l : List UInt8) (n : Nat) : List UInt8 := l.take n

set_option maxHeartbeats 1000000 in
theorem short_calls (A : Option Addr) (c : Nat) (l : List UInt8) (F : Nat → Prop) (n : Nat) (w : World) (hn : n ≤ 1099511627776) (hc : l.length ≤ c) (hm : c ≤ maxLen) (hr : Row kb w F A l) :
    Calls Try.prog 18 #[.slice A l.length c, .int .i64 n] w fun e w' => (∃ v, e = .returned v ∧ Sl kb w F v (l.take n)) ∧ w = w' := by
  have hm' := hm
  unfold maxLen at hm'
  by_cases h : n < l.length
  · have hcut := fun W => slice_to (P := Try.prog) 24 5 Try.underlying24 (by kernel_rfl) A l.length c (n : Int) (by omega) (by omega) W .i64
    simp only [Int.toNat_natCast] at hcut
    have hres : Sl kb w F (.slice A n c) (l.take n) := ⟨A, c, by rw [List.length_take, Nat.min_eq_left (by omega)], by rw [List.length_take]; omega, hm, hr.take n⟩
    have Hres := Lib.hid hres
    clear hres
    go_enter Try.func18, Try.ntmps18
    go_wp2
    go_ret
    exact ⟨⟨_, rfl, Hres.out⟩, rfl⟩
  · have hres : Sl kb w F (.slice A l.length c) (l.take n) := by
      rw [List.take_of_length_le (by omega)]
      exact ⟨A, c, rfl, hc, hm, hr⟩
    have Hres := Lib.hid hres
    clear hres
    go_enter Try.func18, Try.ntmps18
    go_wp2
    go_ret
    exact ⟨⟨_, rfl, Hres.out⟩, rfl⟩

/-- Not too many rows, none of them too long. -/
def fewL (ls : List (List UInt8)) : List (List UInt8) := (ls.take 8).map fun b => b.take 200
theorem fewL_len (ls : List (List UInt8)) : (fewL ls).length ≤ 8 := by simp [fewL]; omega
theorem fewL_each (ls : List (List UInt8)) : ∀ x ∈ fewL ls, x.length ≤ 200 := by
  intro x hx
  obtain ⟨b, _, rfl⟩ := List.mem_map.1 hx
  rw [List.length_take]; omega

set_option maxHeartbeats 1000000 in
theorem few_calls (A : Option Addr) (c : Nat) (ls : List (List UInt8)) (w : World) (hn : ls.length ≤ maxLen) (hr : Row (slk kb) w (fun k => k < w.heap.size) A ls) :
    Calls Try.prog 9 #[.slice A ls.length c] w fun e w' => ∃ v, e = .returned v ∧ Own (slk kb) 24 w' w.heap.size (fun k => k < w.heap.size) v (fewL ls) ∧ Below w.heap.size w w' := by
  have hn' := hn
  unfold maxLen at hn
  go_enter Try.func9, Try.ntmps9
  go_wp2
  go_loopw [3, 8] (fun v i w' => ∃ k : Nat, k ≤ ls.length ∧ k ≤ 8 ∧ i = .int .i64 k ∧ Own (slk kb) 24 w' w.heap.size (fun k => k < w.heap.size) v (fewL (ls.take k)) ∧ Below w.heap.size w w') (fun _ i _ => ls.length - (intOf i).toNat)
  case atStart => exact ⟨0, by omega, by omega, rfl, Own.nil _ _ _ _ _, Below.refl _ _⟩
  case round =>
    obtain ⟨k, hk, hk8, rfl, ho, hB⟩ := hrel
    by_cases hlt : k < ls.length
    · obtain ⟨ad, B, cb, rfl, hcell, hBc, hm, hrow⟩ := (hr.belowF (fun _ h => h) hB).sl_at k hlt
      by_cases h8 : k < 8
      · have hfl : fewL (ls.take (k + 1)) = fewL (ls.take k) ++ [ls[k].take 200] := by
          unfold fewL
          rw [List.take_take, List.take_take, Nat.min_eq_right (by omega), Nat.min_eq_right (by omega), take_snoc ls k hlt, List.map_append]; rfl
        have hfn := fewL_len (ls.take k)
        have Hfl := Lib.hid hfl
        clear hfl
        have hcall := short_calls B cb ls[k] (fun k => k < w.heap.size) 200 wr (by omega) hBc hm hrow
        have Hcall := Lib.hid hcall
        clear hcall
        go_wp2_with fail
        refine Hcall.out.mono ?_
        rintro e w1 ⟨⟨vb, rfl, hsl⟩, rfl⟩
        obtain ⟨Ab, cb2, rfl, h1, h2, hrb⟩ := hsl
        generalize ls[k].take 200 = b at *
        go_wp2_with (at_builtin; go_must (refine app_one1 (slk kb) rfl w.heap.size (fun k => k < w.heap.size) rfl (.tmp 15) (.tmp 18) 22 24 24 rfl Try.underlying22 info_bs u3 (fewL (ls.take k)) b wr.heap.size _ rfl rfl (ho.alloc _) (cell_new0 _ _ _) ⟨_, rfl, (show Sl kb wr (fun k => k < w.heap.size) (.slice Ab b.length cb2) b from ⟨Ab, cb2, rfl, h1, h2, hrb⟩).alloc _⟩ (fun k hk _ he => by have := ho.at he.symm; omega) (by omega) (by simp only [maxLen]; omega) (by have := hB.size; simp; omega) ?_; intro v4 w4 ho4 hg ha4))
        go_roundw
        case rel => exact ⟨k + 1, by omega, by omega, by go_num, by rw [Hfl.out]; exact ho4, (blw_alloc hB _).grown hg (by have := hB.size; simp; omega) (fun k hk => (ho.at hk).1)⟩
        case measure => simp [intOf]; omega
      · have hres : fewL (ls.take k) = fewL ls := by unfold fewL; rw [List.take_take, Nat.min_eq_left (by omega)]
        rw [hres] at ho
        clear hres
        go_wp2
        go_ret
        exact ⟨_, rfl, ho, hB⟩
    · obtain rfl : k = ls.length := by omega
      rw [List.take_length] at ho
      go_wp2
      go_ret
      exact ⟨_, rfl, ho, hB⟩

set_option maxHeartbeats 1000000 in
theorem all_calls (A : Option Addr) (c : Nat) (ls : List (List UInt8)) (w : World) (hn : ls.length ≤ 8) (hi : ∀ x ∈ ls, x.length ≤ 200) (hr : Row (slk kb) w (fun k => k < w.heap.size) A ls) :
    Calls Try.prog 10 #[.slice A ls.length c] w fun e w' => ∃ v, e = .returned v ∧ Own kb 5 w' w.heap.size (fun _ => False) v ls.flatten ∧ Below w.heap.size w w' := by
  go_enter Try.func10, Try.ntmps10
  go_wp2
  go_loopw [3, 8] (fun v i w' => ∃ k : Nat, k ≤ ls.length ∧ i = .int .i64 k ∧ Own kb 5 w' w.heap.size (fun _ => False) v (ls.take k).flatten ∧ Below w.heap.size w w' ∧ (ls.take k).flatten.length ≤ 200 * k) (fun _ i _ => ls.length - (intOf i).toNat)
  case atStart => exact ⟨0, by omega, rfl, Own.nil _ _ _ _ _, Below.refl _ _, by simp⟩
  case round =>
    obtain ⟨k, hk, rfl, ho, hB, hlen⟩ := hrel
    by_cases hlt : k < ls.length
    · obtain ⟨ad, B, cb, rfl, hcell, hBc, hm, hrow⟩ := (hr.belowF (fun _ h => h) hB).sl_at k hlt
      have hx := hi _ (List.getElem_mem hlt)
      have Hfl := Lib.hid (flat_snoc ls k hlt)
      have hsl : Sl kb wr (fun k => k < w.heap.size) (.slice B ls[k].length cb) ls[k] := ⟨B, cb, rfl, hBc, hm, hrow⟩
      generalize (ls.take k).flatten = pre at *
      go_wp2_with (at_builtin; go_must (refine app_flat kb flat_kb w.heap.size rfl (.tmp 12) (.tmp 13) 24 5 1 rfl Try.underlying24 info_u8 u3 _ pre ls[k] _ _ rfl rfl ho hsl (by omega) (by simp only [maxLen]; omega) hB.size ?_; intro v4 w4 ho4 hg ha4))
      go_roundw
      case rel => exact ⟨k + 1, hlt, by go_num, by rw [Hfl.out]; exact ho4, hB.grown hg hB.size (fun k hk => (ho.at hk).1), by rw [Hfl.out, List.length_append]; omega⟩
      case measure => simp [intOf]; omega
    · obtain rfl : k = ls.length := by omega
      rw [List.take_length] at ho
      go_wp2
      go_ret
      exact ⟨_, rfl, ho, hB⟩
end Go.Proofs.Ytkmjcjhnfpkakaa
