/- What is found in an index that was laid, plain. -/
import Derived.Test.YtklbbpicfhalcaaLaidM
set_option linter.unusedVariables false
set_option linter.unusedSimpArgs false
namespace Go.Proofs.Ytklbbpicfhalcaa
open Go Go.RowKit

theorem placeAt_mono (sizes : List Int) {i k : Nat} (h : i ≤ k) : placeAt sizes i ≤ placeAt sizes k := by
  rcases Nat.lt_or_ge i k with h1 | h1
  · exact Nat.le_of_lt (placeAt_lt sizes i k h1)
  · rw [show i = k by omega]; exact Nat.le_refl _
theorem cutN_eq {α : Type} (q : α → Bool) (d : α) (l : List α) (m : Nat) (hm : m ≤ l.length) (h1 : ∀ i, i < m → q (l.getD i d) = true) (h2 : m < l.length → q (l.getD m d) = false) : cutN q l = m := by
  have h3 := cutN_le q l
  rcases Nat.lt_trichotomy (cutN q l) m with h | h | h
  · have := cutN_at q d l (by omega)
    rw [h1 _ h] at this
    cases this
  · exact h
  · have := cutN_in q d l m h
    rw [h2 (by omega)] at this
    cases this
/-- The last entry up to an offset. -/
theorem find_at {x : IxM} (hr : Rising x.l) (o : Int) (m : Nat) (hm : m < x.l.length) (h1 : (x.l.getD m z3).1 ≤ o) (h2 : ∀ j, m < j → j < x.l.length → o < (x.l.getD j z3).1) : findM x o = (x.l.getD m z3, true) := by
  have := cutN_eq (fun e : Int × Int × Int => decide (e.1 ≤ o)) z3 x.l (m + 1) hm (fun i hi => decide_eq_true (Int.le_trans (hr i m (by omega) hm).1 h1)) (fun h => decide_eq_false (by have := h2 (m + 1) (by omega) h; omega))
  unfold findM entryM
  rw [this, if_neg (by omega), show (((m + 1 : Nat) : Int) - 1).toNat = m by omega]
  rfl
theorem find_none {x : IxM} (o : Int) (h : ∀ j, j < x.l.length → o < (x.l.getD j z3).1) : findM x o = (z3, false) := by
  have := cutN_eq (fun e : Int × Int × Int => decide (e.1 ≤ o)) z3 x.l 0 (Nat.zero_le _) (fun i hi => by omega) (fun h0 => decide_eq_false (by have := h 0 h0; omega))
  unfold findM entryM
  rw [this, if_pos (by decide)]
  rfl
theorem after_at {x : IxM} (hr : Rising x.l) (t : Int) (m : Nat) (hm : m < x.l.length) (h1 : (x.l.getD m z3).2.2 < t) (h2 : ∀ j, m < j → j < x.l.length → t ≤ (x.l.getD j z3).2.2) : afterM x t = (x.l.getD m z3, true) := by
  have := cutN_eq (fun e : Int × Int × Int => decide (e.2.2 < t)) z3 x.l (m + 1) hm (fun i hi => decide_eq_true (by have := (hr i m (by omega) hm).2; omega)) (fun h => decide_eq_false (by have := h2 (m + 1) (by omega) h; omega))
  unfold afterM entryM
  rw [this, if_neg (by omega), show (((m + 1 : Nat) : Int) - 1).toNat = m by omega]
  rfl
theorem after_none {x : IxM} (t : Int) (h : ∀ j, j < x.l.length → t ≤ (x.l.getD j z3).2.2) : afterM x t = (z3, false) := by
  have := cutN_eq (fun e : Int × Int × Int => decide (e.2.2 < t)) z3 x.l 0 (Nat.zero_le _) (fun i hi => by omega) (fun h0 => decide_eq_false (by have := h 0 h0; omega))
  unfold afterM entryM
  rw [this, if_pos (by decide)]
  rfl
/-- Each batch has an entry that is not far ahead. -/
def NearInv (gap : Int) (sizes : List Int) (k : Nat) (l : List (Int × Int × Int)) : Prop :=
  ∀ i, i < k → ∃ m, m < l.length ∧ (l.getD m z3).1 ≤ (3 * i : Nat) ∧ 0 ≤ (l.getD m z3).1 ∧ (l.getD m z3).2.1 ≤ (placeAt sizes i : Nat) ∧ 0 ≤ (l.getD m z3).2.1 ∧ ((placeAt sizes i : Nat) : Int) - (l.getD m z3).2.1 < gap ∧ ∀ j, m < j → j < l.length → ((3 * i : Nat) : Int) + 2 < (l.getD j z3).1
theorem near_step {gap : Int} {sizes times : List Int} {k : Nat} {x : IxM} (hg : 1 ≤ gap) (h : LaidInv gap sizes times k x) (hn : NearInv gap sizes k x.l) : NearInv gap sizes (k + 1) (noteX x (3 * k : Nat) (placeAt sizes k : Nat) (timeAt times k : Nat)).l := by
  simp only [noteX]
  cases ha : addsM x (placeAt sizes k : Nat) with
  | true =>
    rw [if_pos rfl]
    intro i hi
    rcases Nat.lt_or_ge i k with h1 | h1
    · obtain ⟨m, hm, e1, e2, e3, e4, e5, e6⟩ := hn i h1
      refine ⟨m, by simp; omega, ?_, ?_, ?_, ?_, ?_, ?_⟩
      · rw [getD_snoc, if_pos hm]; exact e1
      · rw [getD_snoc, if_pos hm]; exact e2
      · rw [getD_snoc, if_pos hm]; exact e3
      · rw [getD_snoc, if_pos hm]; exact e4
      · rw [getD_snoc, if_pos hm]; exact e5
      · intro j hj hjl
        rw [getD_snoc]
        split
        · rename_i h2
          exact e6 j hj h2
        · rw [if_pos (by simp at hjl; omega)]
          show ((3 * i : Nat) : Int) + 2 < ((3 * k : Nat) : Int)
          omega
    · obtain rfl : i = k := by omega
      refine ⟨x.l.length, by simp, ?_, ?_, ?_, ?_, ?_, ?_⟩
      · rw [getD_snoc, if_neg (by omega), if_pos rfl]; exact Int.le_refl _
      · rw [getD_snoc, if_neg (by omega), if_pos rfl]; exact Int.natCast_nonneg _
      · rw [getD_snoc, if_neg (by omega), if_pos rfl]; exact Int.le_refl _
      · rw [getD_snoc, if_neg (by omega), if_pos rfl]; exact Int.natCast_nonneg _
      · rw [getD_snoc, if_neg (by omega), if_pos rfl]
        show ((placeAt sizes i : Nat) : Int) - ((placeAt sizes i : Nat) : Int) < gap
        omega
      · intro j hj hjl
        simp at hjl
        omega
  | false =>
    rw [if_neg (by simp)]
    intro i hi
    rcases Nat.lt_or_ge i k with h1 | h1
    · exact hn i h1
    · obtain rfl : i = k := by omega
      unfold addsM at ha
      rw [Bool.or_eq_false_iff] at ha
      obtain ⟨ha1, ha2⟩ := ha
      have hlen : 0 < x.l.length := by
        cases hl : x.l with
        | nil => rw [hl] at ha1; cases ha1
        | cons => simp
      have ha2 := of_decide_eq_false ha2
      unfold lastP at ha2
      obtain ⟨j, hj, e1, e2, _⟩ := h.ents (x.l.length - 1) (by omega)
      have hpm := placeAt_mono sizes (Nat.le_of_lt hj)
      rw [h.gap] at ha2
      refine ⟨x.l.length - 1, by omega, by rw [e1]; omega, by rw [e1]; omega, by rw [e2]; omega, by rw [e2]; omega, by omega, fun q hq hql => by omega⟩
theorem near_inv (gap : Int) (hg : 1 ≤ gap) (sizes times : List Int) : ∀ k, NearInv gap sizes k (ixAt gap sizes times k).l
  | 0 => fun i hi => by omega
  | k + 1 => near_step hg (laid_inv gap sizes times k) (near_inv gap hg sizes times k)
/-- What Find tells of a batch. -/
theorem near_find (gap : Int) (hg : 1 ≤ gap) (sizes times : List Int) (k i : Nat) (hi : i < k) (j : Nat) (hj : j < 3) :
    ∃ a b c, findM (ixAt gap sizes times k) (3 * (i : Int) + (j : Int)) = ((a, b, c), true) ∧ 0 ≤ a ∧ a ≤ 3 * (i : Int) ∧ 0 ≤ b ∧ b ≤ (placeAt sizes i : Nat) ∧ ((placeAt sizes i : Nat) : Int) - b < gap := by
  obtain ⟨m, hm, e1, e2, e3, e4, e5, e6⟩ := near_inv gap hg sizes times k i hi
  have h1 : ((ixAt gap sizes times k).l.getD m z3).1 ≤ 3 * (i : Int) + (j : Int) := by omega
  have h2 : ∀ q, m < q → q < (ixAt gap sizes times k).l.length → 3 * (i : Int) + (j : Int) < ((ixAt gap sizes times k).l.getD q z3).1 := fun q hq hql => by have := e6 q hq hql; omega
  exact ⟨_, _, _, find_at (laid_inv gap sizes times k).rising _ m hm h1 h2, e2, by rw [Int.natCast_mul] at e1; exact e1, e4, e3, e5⟩
theorem near_ahead (gap : Int) (sizes times : List Int) (k : Nat) : findM (ixAt gap sizes times k) (-1) = (z3, false) := by
  refine find_none _ fun j hj => ?_
  obtain ⟨q, hq, e1, _⟩ := (laid_inv gap sizes times k).ents j hj
  rw [e1]
  omega
/-- The latest time of the batches so far. -/
def lateAt (times : List Int) : Nat → Int
  | 0 => -1
  | k + 1 => if lateAt times k < ((timeAt times k : Nat) : Int) then ((timeAt times k : Nat) : Int) else lateAt times k
theorem ix_late (gap : Int) (sizes times : List Int) : ∀ k, (ixAt gap sizes times k).late = lateAt times k
  | 0 => rfl
  | k + 1 => by
    show (if _ < _ then _ else _) = _
    rw [ix_late gap sizes times k]
    rfl
theorem late_ge (times : List Int) : ∀ (k i : Nat), i < k → ((timeAt times i : Nat) : Int) ≤ lateAt times k
  | k + 1, i, h => by
    unfold lateAt
    by_cases hi : i = k
    · subst hi
      split <;> omega
    · have := late_ge times k i (by omega)
      split <;> omega
theorem late_is (times : List Int) : ∀ k, lateAt times k = -1 ∨ ∃ i, i < k ∧ lateAt times k = ((timeAt times i : Nat) : Int)
  | 0 => .inl rfl
  | k + 1 => by
    unfold lateAt
    split
    · exact .inr ⟨k, by omega, rfl⟩
    · rcases late_is times k with h | ⟨i, hi, h⟩
      · exact .inl h
      · exact .inr ⟨i, by omega, h⟩
/-- Each entry's time is the latest ahead of it. -/
theorem ent_late (gap : Int) (sizes times : List Int) : ∀ k i, i < (ixAt gap sizes times k).l.length → ∃ j, j < k ∧ ((ixAt gap sizes times k).l.getD i z3).1 = (3 * j : Nat) ∧ ((ixAt gap sizes times k).l.getD i z3).2.2 = lateAt times j
  | 0, i, h => by simp [ixAt, newM] at h
  | k + 1, i, h => by
    have ih := ent_late gap sizes times k
    have hl := ix_late gap sizes times k
    simp only [ixAt] at h ⊢
    generalize ixAt gap sizes times k = x at *
    simp only [noteX] at h ⊢
    split at h
    · rename_i ha
      rw [if_pos ha, getD_snoc]
      by_cases h1 : i < x.l.length
      · rw [if_pos h1]
        obtain ⟨j, hj, e1, e2⟩ := ih i h1
        exact ⟨j, by omega, e1, e2⟩
      · rw [if_neg h1, if_pos (by simp at h; omega)]
        exact ⟨k, by omega, rfl, hl⟩
    · rename_i ha
      rw [if_neg ha]
      obtain ⟨j, hj, e1, e2⟩ := ih i h
      exact ⟨j, by omega, e1, e2⟩
/-- The first batch is the first entry. -/
theorem ent_first (gap : Int) (sizes times : List Int) : ∀ k, 0 < k → ∃ l, (ixAt gap sizes times k).l = ((0 : Int), (0 : Int), (-1 : Int)) :: l
  | 1, _ => ⟨[], rfl⟩
  | k + 2, _ => by
    obtain ⟨l, hl⟩ := ent_first gap sizes times (k + 1) (by omega)
    rw [ixAt]
    simp only [noteX]
    rw [hl]
    split
    · exact ⟨_, rfl⟩
    · exact ⟨l, rfl⟩
theorem times_none (gap : Int) (sizes times : List Int) (n : Nat) (time : Int) (h : n = 0 ∨ time < 0) : afterM (ixAt gap sizes times n) time = (z3, false) := by
  have hL := laid_inv gap sizes times n
  refine after_none _ fun j hj => ?_
  rcases h with rfl | h
  · have := hL.len
    omega
  · obtain ⟨q, hq, e1, e2, e3, e4⟩ := hL.ents j hj
    omega
theorem times_some (gap : Int) (sizes times : List Int) (n : Nat) (time : Int) (hn : 0 < n) (ht : 0 ≤ time) :
    ∃ a b c, afterM (ixAt gap sizes times n) time = ((a, b, c), true) ∧ (∀ i : Nat, i < n → 3 * (i : Int) < a → ((timeAt times i : Nat) : Int) < time) ∧
      ∀ m, m < (ixAt gap sizes times n).l.length → a < ((ixAt gap sizes times n).l.getD m z3).1 → ∃ i : Nat, i < n ∧ 3 * (i : Int) < ((ixAt gap sizes times n).l.getD m z3).1 ∧ time ≤ ((timeAt times i : Nat) : Int) := by
  have hL := laid_inv gap sizes times n
  have hel := ent_late gap sizes times n
  obtain ⟨l', hl'⟩ := ent_first gap sizes times n hn
  generalize ixAt gap sizes times n = x at *
  have hpos : 0 < x.l.length := by rw [hl']; simp
  have hc := cutN_le (fun e : Int × Int × Int => decide (e.2.2 < time)) x.l
  have hc1 : 0 < cutN (fun e : Int × Int × Int => decide (e.2.2 < time)) x.l := by
    rw [hl']
    unfold cutN
    rw [List.takeWhile_cons, if_pos (decide_eq_true (show (-1 : Int) < time by omega))]
    simp
  have hin := cutN_in (fun e : Int × Int × Int => decide (e.2.2 < time)) z3 x.l
  have hat := cutN_at (fun e : Int × Int × Int => decide (e.2.2 < time)) z3 x.l
  have haf : afterM x time = (x.l.getD (cutN (fun e : Int × Int × Int => decide (e.2.2 < time)) x.l - 1) z3, true) := by
    unfold afterM entryM
    rw [if_neg (by omega)]
    congr 2
    omega
  generalize cutN (fun e : Int × Int × Int => decide (e.2.2 < time)) x.l = c at *
  have hlast := of_decide_eq_true (hin (c - 1) (by omega))
  refine ⟨(x.l.getD (c - 1) z3).1, (x.l.getD (c - 1) z3).2.1, (x.l.getD (c - 1) z3).2.2, haf, ?_, ?_⟩
  · intro i hi h
    obtain ⟨j, hj, e1, e2⟩ := hel (c - 1) (by omega)
    rw [e1] at h
    have := late_ge times j i (by omega)
    rw [e2] at hlast
    omega
  · intro m hm h
    have hmc : c ≤ m := by
      rcases Nat.lt_or_ge m c with h1 | h1
      · have := (hL.rising m (c - 1) (by omega) (by omega)).1
        omega
      · exact h1
    have h2 := of_decide_eq_false (hat (by omega))
    have h3 := (hL.rising c m hmc hm).2
    obtain ⟨j, hj, e1, e2⟩ := hel m hm
    rcases late_is times j with h4 | ⟨i, hi, h4⟩
    · omega
    · exact ⟨i, by omega, by rw [e1]; omega, by omega⟩
/-- Is every batch ahead of an offset earlier? -/
def earlyB (times : List Int) (fo time : Int) (j : Nat) : Bool := (List.range j).all fun i => decide (fo ≤ 3 * (i : Int)) || decide (((timeAt times i : Nat) : Int) < time)
theorem early_succ (times : List Int) (fo time : Int) (j : Nat) : earlyB times fo time (j + 1) = (earlyB times fo time j && (decide (fo ≤ 3 * (j : Int)) || decide (((timeAt times j : Nat) : Int) < time))) := by
  unfold earlyB
  rw [List.range_succ, List.all_append]
  simp
theorem early_not (times : List Int) (fo time : Int) (n : Nat) (h : ∃ i : Nat, i < n ∧ 3 * (i : Int) < fo ∧ time ≤ ((timeAt times i : Nat) : Int)) : earlyB times fo time n = false := by
  obtain ⟨i, hi, h1, h2⟩ := h
  cases hb : earlyB times fo time n with
  | false => rfl
  | true =>
    have := List.all_eq_true.1 hb i (List.mem_range.2 hi)
    rw [Bool.or_eq_true, decide_eq_true_eq, decide_eq_true_eq] at this
    omega
end Go.Proofs.Ytklbbpicfhalcaa
