/- What an index is that was laid, cut, and noted into again, plain. -/
import Derived.Test.YtklbbpicfhalcaaLaidLaw
import Derived.Test.YtklbbpicfhalcaaIx8
set_option linter.unusedVariables false
set_option linter.unusedSimpArgs false
namespace Go.Proofs.Ytklbbpicfhalcaa
open Go Go.RowKit

theorem cutX_l (x : IxM) (n : Nat) : (cutX x n).l = x.l.take n := by
  unfold cutX
  split
  · rename_i h; subst h; rfl
  · rfl
theorem from_lt {x : IxM} (hr : Rising x.l) (o : Int) (m : Nat) (hm : m < x.l.length) : m < fromM x o ↔ (x.l.getD m z3).1 < o := by
  constructor
  · intro h
    exact of_decide_eq_true (cutN_in (fun e : Int × Int × Int => decide (e.1 < o)) z3 x.l m h)
  · intro h
    rcases Nat.lt_or_ge m (fromM x o) with h1 | h1
    · exact h1
    · have h2 : (x.l.getD (fromM x o) z3).1 < o → False := fun h3 => by
        have := cutN_at (fun e : Int × Int × Int => decide (e.1 < o)) z3 x.l (by unfold fromM at h1; omega)
        have h4 := of_decide_eq_false this
        exact h4 h3
      have h3 := (hr (fromM x o) m h1 hm).1
      exact (h2 (by omega)).elim
/-- The index behind the cut, as it is noted into. -/
def yAt (gap : Int) (sizes : List Int) (n : Nat) (cut : Int) : Nat → IxM
  | 0 => cutX (ixAt gap sizes [] n) (fromM (ixAt gap sizes [] n) cut)
  | k + 1 => if 3 * (k : Int) < cut then yAt gap sizes n cut k else noteX (yAt gap sizes n cut k) (3 * (k : Int)) (placeAt sizes k : Nat) (timeAt [] k : Nat)
structure CutInv (gap : Int) (sizes : List Int) (cut : Int) (k : Nat) (y : IxM) : Prop where
  gap : y.gap = gap
  last : ∃ j : Nat, y.offset = 3 * (j : Int) ∧ y.place = (placeAt sizes j : Nat) ∧ (3 * (j : Int) < cut ∨ j < k)
  late : -1 ≤ y.late ∧ y.late < 1000
  ents : ∀ i, i < y.l.length → ∃ j : Nat, (y.l.getD i z3).1 = 3 * (j : Int) ∧ (y.l.getD i z3).2.1 = (placeAt sizes j : Nat) ∧ (3 * (j : Int) < cut ∨ j < k) ∧ (y.l.getD i z3).2.2 ≤ y.late
  len : y.l.length ≤ 80 + k
  pos : 0 < y.l.length
  rising : Rising y.l
theorem getD_take (l : List (Int × Int × Int)) (n i : Nat) (h : i < (l.take n).length) : (l.take n).getD i z3 = l.getD i z3 := by
  rw [List.length_take] at h
  rw [List.getD_eq_getElem?_getD, List.getD_eq_getElem?_getD, List.getElem?_take, if_pos (by omega)]
theorem cut_start (gap : Int) (sizes : List Int) (n : Nat) (cut : Int) (hn : n ≤ 80) (hc : 0 < fromM (ixAt gap sizes [] n) cut) : CutInv gap sizes cut 0 (yAt gap sizes n cut 0) := by
  have hL := laid_inv gap sizes [] n
  have hle : fromM (ixAt gap sizes [] n) cut ≤ (ixAt gap sizes [] n).l.length := cutN_le _ _
  have hlt := from_lt hL.rising cut
  show CutInv gap sizes cut 0 (cutX (ixAt gap sizes [] n) (fromM (ixAt gap sizes [] n) cut))
  generalize ixAt gap sizes [] n = x at *
  generalize fromM x cut = c at *
  have hlen : (x.l.take c).length = c := by rw [List.length_take]; omega
  have hx := hL.len
  refine ⟨?_, ?_, ?_, ?_, ?_, ?_, ?_⟩
  · unfold cutX; rw [if_neg (by omega)]; exact hL.gap
  · obtain ⟨j, hj, e1, e2, _⟩ := hL.ents (c - 1) (by omega)
    have := (hlt (c - 1) (by omega)).1 (by omega)
    unfold cutX
    rw [if_neg (by omega)]
    exact ⟨j, by show (x.l.getD (c - 1) z3).1 = _; rw [e1]; omega, e2, .inl (by omega)⟩
  · unfold cutX; rw [if_neg (by omega)]; exact hL.late
  · rw [cutX_l]
    intro i hi
    rw [getD_take _ _ _ hi]
    rw [hlen] at hi
    obtain ⟨j, hj, e1, e2, e3, e4⟩ := hL.ents i (by omega)
    have := (hlt i (by omega)).1 hi
    exact ⟨j, by omega, e2, .inl (by omega), by unfold cutX; rw [if_neg (by omega)]; exact e4⟩
  · rw [cutX_l, hlen]; omega
  · rw [cutX_l, hlen]; omega
  · rw [cutX_l]
    intro i j hij hj
    rw [getD_take _ _ _ hj, getD_take _ _ _ (by omega)]
    exact hL.rising i j hij (by rw [hlen] at hj; omega)
theorem cut_step {gap : Int} {sizes : List Int} {cut : Int} {k : Nat} {y : IxM} (h : CutInv gap sizes cut k y) (hk : cut ≤ 3 * (k : Int)) : CutInv gap sizes cut (k + 1) (noteX y (3 * (k : Int)) (placeAt sizes k : Nat) (timeAt [] k : Nat)) := by
  have ht := timeAt_lt [] k
  have hlt := h.late
  have hlate : y.late ≤ (if y.late < ((timeAt [] k : Nat) : Int) then ((timeAt [] k : Nat) : Int) else y.late) ∧ (if y.late < ((timeAt [] k : Nat) : Int) then ((timeAt [] k : Nat) : Int) else y.late) < 1000 := by
    split <;> omega
  have hll := h.len
  have hpos := h.pos
  refine ⟨h.gap, ⟨k, rfl, rfl, .inr (by omega)⟩, ⟨Int.le_trans hlt.1 hlate.1, hlate.2⟩, ?_, ?_, ?_, ?_⟩
  · intro i hi
    simp only [noteX] at hi ⊢
    split at hi
    · rename_i ha
      rw [if_pos ha, getD_snoc]
      by_cases h1 : i < y.l.length
      · rw [if_pos h1]
        obtain ⟨j, e1, e2, e3, e4⟩ := h.ents i h1
        exact ⟨j, e1, e2, e3.imp_right fun h => by omega, Int.le_trans e4 hlate.1⟩
      · rw [if_neg h1, if_pos (by simp at hi; omega)]
        exact ⟨k, rfl, rfl, .inr (by omega), hlate.1⟩
    · rename_i ha
      rw [if_neg ha]
      obtain ⟨j, e1, e2, e3, e4⟩ := h.ents i hi
      exact ⟨j, e1, e2, e3.imp_right fun h => by omega, Int.le_trans e4 hlate.1⟩
  · simp only [noteX]
    split
    · rw [List.length_append, List.length_singleton]; omega
    · omega
  · simp only [noteX]
    split
    · rw [List.length_append, List.length_singleton]; omega
    · omega
  · simp only [noteX]
    split
    · intro i j hij hj
      rw [List.length_append, List.length_singleton] at hj
      rw [getD_snoc, getD_snoc]
      by_cases h1 : j < y.l.length
      · rw [if_pos h1, if_pos (by omega)]
        exact h.rising i j hij h1
      · have h2 : j = y.l.length := by omega
        rw [if_neg h1, if_pos h2]
        by_cases h3 : i < y.l.length
        · rw [if_pos h3]
          obtain ⟨q, e1, e2, e3, e4⟩ := h.ents i h3
          exact ⟨by rw [e1]; show 3 * (q : Int) ≤ 3 * (k : Int); omega, e4⟩
        · rw [if_neg h3, if_pos (by omega)]
          exact ⟨Int.le_refl _, Int.le_refl _⟩
    · exact h.rising
theorem cut_inv (gap : Int) (sizes : List Int) (n : Nat) (cut : Int) (hn : n ≤ 80) (hc : 0 < fromM (ixAt gap sizes [] n) cut) : ∀ k, CutInv gap sizes cut k (yAt gap sizes n cut k)
  | 0 => cut_start gap sizes n cut hn hc
  | k + 1 => by
    have ih := cut_inv gap sizes n cut hn hc k
    rw [yAt]
    split
    · exact ⟨ih.gap, by obtain ⟨j, e1, e2, e3⟩ := ih.last; exact ⟨j, e1, e2, e3.imp_right fun h => by omega⟩, ih.late, fun i hi => by obtain ⟨j, e1, e2, e3, e4⟩ := ih.ents i hi; exact ⟨j, e1, e2, e3.imp_right fun h => by omega, e4⟩, by have := ih.len; omega, ih.pos, ih.rising⟩
    · exact cut_step ih (by omega)
theorem cut_note {gap : Int} {sizes : List Int} {cut : Int} {k : Nat} {y : IxM} (h : CutInv gap sizes cut k y) (hk : cut ≤ 3 * (k : Int)) (hk80 : k ≤ 80) : noteM y (3 * (k : Int)) (placeAt sizes k : Nat) (timeAt [] k : Nat) = (noteX y (3 * (k : Int)) (placeAt sizes k : Nat) (timeAt [] k : Nat), 0) := by
  have h1 := placeAt_le sizes k
  have h2 := timeAt_lt [] k
  obtain ⟨j, e1, e2, e3⟩ := h.last
  have hj : j < k := by omega
  have h3 := placeAt_lt sizes j k hj
  unfold noteM
  have hm : mayM (3 * (k : Int)) (placeAt sizes k : Nat) (timeAt [] k : Nat) = true := by
    simp only [mayM, Bool.and_eq_true, decide_eq_true_eq]
    omega
  rw [if_pos hm, if_neg (by omega)]
theorem cut_fits {gap : Int} {sizes : List Int} {cut : Int} {k : Nat} {y : IxM} (h : CutInv gap sizes cut k y) (hg : 0 ≤ gap ∧ gap ≤ 4194304) (hc : cut ≤ 1000) (hk : k ≤ 80) : Fits y := by
  refine ⟨by rw [h.gap]; exact hg, by have := h.len; omega, ?_⟩
  intro e he
  obtain ⟨i, hi, rfl⟩ := List.mem_iff_getElem.1 he
  obtain ⟨j, _, e2, e3, _⟩ := h.ents i hi
  have : y.l.getD i z3 = y.l[i] := by simp [hi]
  rw [this] at e2
  have := placeAt_le sizes j
  omega
theorem cut_find {gap : Int} {sizes : List Int} {cut : Int} {k : Nat} {y : IxM} (hg : 1 ≤ gap) (h : CutInv gap sizes cut k y) (hk : cut ≤ 3 * (k : Int)) :
    ∃ a b c, findM (noteX y (3 * (k : Int)) (placeAt sizes k : Nat) (timeAt [] k : Nat)) (3 * (k : Int)) = ((a, b, c), true) ∧ a ≤ 3 * (k : Int) ∧ 0 ≤ b ∧ b ≤ (placeAt sizes k : Nat) ∧ ((placeAt sizes k : Nat) : Int) - b < gap := by
  have h' := cut_step h hk
  have hpl : lastP (noteX y (3 * (k : Int)) (placeAt sizes k : Nat) (timeAt [] k : Nat)).l = (placeAt sizes k : Nat) ∨ (placeAt sizes k : Nat) - lastP (noteX y (3 * (k : Int)) (placeAt sizes k : Nat) (timeAt [] k : Nat)).l < gap := by
    have hpos := h.pos
    simp only [noteX]
    cases ha : addsM y (placeAt sizes k : Nat) with
    | true =>
      rw [if_pos rfl]
      left
      unfold lastP
      rw [getD_snoc, if_neg (by simp), if_pos (by simp)]
    | false =>
      rw [if_neg (by simp)]
      right
      unfold addsM at ha
      rw [Bool.or_eq_false_iff] at ha
      have := of_decide_eq_false ha.2
      rw [h.gap] at this
      omega
  generalize noteX y (3 * (k : Int)) (placeAt sizes k : Nat) (timeAt [] k : Nat) = z at *
  have hpos := h'.pos
  obtain ⟨j, e1, e2, e3, _⟩ := h'.ents (z.l.length - 1) (by omega)
  have hjk : j ≤ k := by omega
  have hpm := placeAt_mono sizes hjk
  refine ⟨(z.l.getD (z.l.length - 1) z3).1, (z.l.getD (z.l.length - 1) z3).2.1, (z.l.getD (z.l.length - 1) z3).2.2, find_at h'.rising _ (z.l.length - 1) (by omega) (by omega) (fun q hq hql => by omega), by rw [e1]; omega, by rw [e2]; omega, by rw [e2]; omega, ?_⟩
  unfold lastP at hpl
  rw [e2] at hpl ⊢
  rcases hpl with hpl | hpl <;> omega
end Go.Proofs.Ytklbbpicfhalcaa
