/- What is read of numbers that were cut off, plain. -/
import Derived.Test.YtjmeoaookpnknaaWire3
set_option linter.unusedVariables false
set_option linter.unusedSimpArgs false
namespace Go.Proofs.Ytjmeoaookpnknaa
open Go Go.RowKit

def preN (L : List Int) (k : Nat) : List UInt8 := ((L.take k).map fun i => encN (zig i)).flatten
theorem preN_succ (L : List Int) (k : Nat) (h : k < L.length) : preN L (k + 1) = preN L k ++ encN (zig L[k]) := by
  unfold preN
  rw [List.take_succ_eq_append_getElem h, List.map_append, List.flatten_append]
  simp
theorem preN_split (L : List Int) (k : Nat) : preN L L.length = preN L k ++ ((L.drop k).map fun i => encN (zig i)).flatten := by
  unfold preN
  rw [List.take_length, ← List.flatten_append, ← List.map_append, List.take_append_drop]
theorem preN_le (L : List Int) (k : Nat) : (preN L k).length ≤ (preN L L.length).length := by
  rw [preN_split L k, List.length_append]
  omega
def endsW (L : List Int) (k : Nat) : List Int := (List.range k).map fun i => ((preN L (i + 1)).length : Int)
theorem endsW_succ (L : List Int) (k : Nat) : endsW L (k + 1) = endsW L k ++ [((preN L (k + 1)).length : Int)] := by simp [endsW, List.range_succ]
theorem endsW_len (L : List Int) (k : Nat) : (endsW L k).length = k := by simp [endsW]
theorem preN_bound (L : List Int) (hL : ∀ x ∈ L, -9223372036854775808 ≤ x ∧ x ≤ 9223372036854775807) (k : Nat) (hk : k ≤ L.length) : (preN L k).length ≤ 10 * k := by
  induction k with
  | zero => simp [preN]
  | succ k ih =>
    have := (encN_len _ (zig_lt (hL L[k] (List.getElem_mem _)))).2
    rw [preN_succ L k (by omega), List.length_append]
    have := ih (by omega)
    omega
/-- A telling that was cut off is none. -/
theorem getU_cut {n : Nat} (hn : n < 18446744073709551616) {l r : List UInt8} (h : l ++ r = encN n) (hr : r ≠ []) : getU 0 0 l = none := by
  cases hg : getU 0 0 l with
  | none => rfl
  | some p =>
    obtain ⟨m, s, e1, e2, _, e4⟩ := getU_of _ _ _ _ hg (by decide)
    have hm : m < 18446744073709551616 := by rw [e2] at e4; simpa using e4
    have hmn : m = n := encN_free hm hn (r := s ++ r) (s := []) (by rw [List.append_nil, ← h, e1, List.append_assoc])
    subst hmn
    rw [e1, List.append_assoc] at h
    have := congrArg List.length h
    rw [List.length_append, List.length_append] at this
    have : r.length = 0 := by omega
    exact (hr (List.length_eq_zero_iff.1 this)).elim
/-- Where a reader of what was cut off stands ahead of the number k. -/
def Stood (L : List Int) (a k : Nat) (y : RdM) : Prop := y.bs = (preN L L.length).take a ∧ ((y.pos = (preN L k).length ∧ (preN L k).length ≤ a ∧ y.err = 0) ∨ (y.err = 6 ∧ a < (preN L k).length))
theorem stood_start (L : List Int) (a : Nat) : Stood L a 0 ⟨(preN L L.length).take a, 0, 0⟩ := ⟨rfl, .inl ⟨rfl, Nat.zero_le _, rfl⟩⟩
theorem stood_in (L : List Int) (hL : ∀ x ∈ L, -9223372036854775808 ≤ x ∧ x ≤ 9223372036854775807) (a k : Nat) (y : RdM) (h : Stood L a k y) (hk : k < L.length) (ha : a ≤ (preN L L.length).length) (hin : (preN L (k + 1)).length ≤ a) : IntR y = (L[k], ⟨y.bs, (preN L (k + 1)).length, 0⟩) ∧ Stood L a (k + 1) ⟨y.bs, (preN L (k + 1)).length, 0⟩ := by
  obtain ⟨hbs, hor⟩ := h
  have hle : (preN L k).length ≤ (preN L (k + 1)).length := by rw [preN_succ L k hk, List.length_append]; omega
  obtain ⟨hp, hpa, he⟩ := hor.resolve_right (fun h => by omega)
  refine ⟨?_, hbs, .inl ⟨rfl, hin, rfl⟩⟩
  have hz := zig_lt (hL L[k] (List.getElem_mem _))
  have hdrop : ∃ r, y.bs.drop y.pos = encN (zig L[k]) ++ r := by
    rw [hbs, hp, preN_split L (k + 1), preN_succ L k hk]
    rw [preN_succ L k hk, List.length_append] at hin
    rw [List.append_assoc, List.drop_take, List.drop_left, List.take_append, List.take_of_length_le (show (encN (zig L[k])).length ≤ a - (preN L k).length by omega)]
    exact ⟨_, rfl⟩
  obtain ⟨r, hr⟩ := hdrop
  have hg := getU_enc (zig L[k]) 0 0 r (by simpa using hz) (.inl rfl) (by omega)
  rw [Nat.zero_add, Nat.mul_zero, Nat.pow_zero, Nat.mul_one, Nat.zero_add] at hg
  unfold IntR UintR
  rw [if_pos he, uintR_some (p := (zig L[k], (encN (zig L[k])).length)) (by rw [hr]; exact hg)]
  simp only
  rw [zag_zig, hp, preN_succ L k hk, List.length_append, he]
theorem stood_out (L : List Int) (hL : ∀ x ∈ L, -9223372036854775808 ≤ x ∧ x ≤ 9223372036854775807) (a k : Nat) (y : RdM) (h : Stood L a k y) (hk : k < L.length) (hout : a < (preN L (k + 1)).length) : IntR y = (0, ⟨y.bs, y.pos, 6⟩) ∧ Stood L a (k + 1) ⟨y.bs, y.pos, 6⟩ := by
  obtain ⟨hbs, hor⟩ := h
  refine ⟨?_, hbs, .inr ⟨rfl, hout⟩⟩
  rcases hor with ⟨hp, hpa, he⟩ | ⟨he, _⟩
  · have hz := zig_lt (hL L[k] (List.getElem_mem _))
    have hnone : getU 0 0 (y.bs.drop y.pos) = none := by
      rw [hbs, hp, preN_split L (k + 1), preN_succ L k hk]
      rw [preN_succ L k hk, List.length_append] at hout
      rw [List.append_assoc, List.drop_take, List.drop_left, List.take_append_of_le_length (by omega)]
      refine getU_cut hz (List.take_append_drop (a - (preN L k).length) _) ?_
      intro e
      have := congrArg List.length e
      rw [List.length_drop] at this
      simp at this
      omega
    unfold IntR UintR
    rw [if_pos he, uintR_none hnone]
    simp only [failR]
    rw [if_pos he]
    rfl
  · unfold IntR UintR
    rw [if_neg (by rw [he]; decide)]
    simp only
    rw [show zag 0 = 0 from rfl, ← he]
end Go.Proofs.Ytjmeoaookpnknaa
