/- What laid lays, plain. -/
import Derived.Test.YtklbbpicfhalcaaIx5
set_option linter.unusedVariables false
set_option linter.unusedSimpArgs false
namespace Go.Proofs.Ytklbbpicfhalcaa
open Go Go.RowKit

def sizeAt (sizes : List Int) (k : Nat) : Nat := absM (sizes.getD k 0) 120
def timeAt (times : List Int) (k : Nat) : Nat := if k < times.length then absM (times.getD k 0) 1000 else 0
def placeAt (sizes : List Int) : Nat → Nat
  | 0 => 0
  | k + 1 => placeAt sizes k + (sizeAt sizes k + 1)
def batchAt (sizes times : List Int) (k : Nat) : Int × Int × Int := ((3 * k : Nat), (placeAt sizes k : Nat), (timeAt times k : Nat))
def batches (sizes times : List Int) (k : Nat) : List (Int × Int × Int) := (List.range k).map (batchAt sizes times)
def ixAt (gap : Int) (sizes times : List Int) : Nat → IxM
  | 0 => newM gap
  | k + 1 => noteX (ixAt gap sizes times k) (3 * k : Nat) (placeAt sizes k : Nat) (timeAt times k : Nat)
theorem sizeAt_lt (sizes : List Int) (k : Nat) : sizeAt sizes k < 120 := absM_lt _ _ (by decide)
theorem timeAt_lt (times : List Int) (k : Nat) : timeAt times k < 1000 := by
  unfold timeAt
  split
  · exact absM_lt _ _ (by decide)
  · decide
theorem placeAt_le (sizes : List Int) : ∀ k, placeAt sizes k ≤ 120 * k
  | 0 => Nat.le_refl _
  | k + 1 => by
    have h1 := placeAt_le sizes k
    have h2 := sizeAt_lt sizes k
    simp only [placeAt]
    omega
theorem placeAt_lt (sizes : List Int) (i : Nat) : ∀ k, i < k → placeAt sizes i < placeAt sizes k
  | k + 1, h => by
    simp only [placeAt]
    by_cases hi : i = k
    · subst hi; omega
    · have := placeAt_lt sizes i k (by omega)
      omega
theorem batches_len (sizes times : List Int) (k : Nat) : (batches sizes times k).length = k := by simp [batches]
theorem batches_snoc (sizes times : List Int) (k : Nat) : batches sizes times (k + 1) = batches sizes times k ++ [batchAt sizes times k] := by simp [batches, List.range_succ]
theorem rising_nil0 : Rising [] := fun i j _ hj => by simp at hj
/-- What an index that was laid is like. -/
structure LaidInv (gap : Int) (sizes times : List Int) (k : Nat) (x : IxM) : Prop where
  gap : x.gap = gap
  off : x.offset < (3 * k : Nat) ∧ -1 ≤ x.offset
  place : (k = 0 ∧ x.place = -1) ∨ (0 < k ∧ x.place = (placeAt sizes (k - 1) : Nat))
  late : -1 ≤ x.late ∧ x.late < 1000
  ents : ∀ i, i < x.l.length → ∃ j, j < k ∧ (x.l.getD i z3).1 = (3 * j : Nat) ∧ (x.l.getD i z3).2.1 = (placeAt sizes j : Nat) ∧ -1 ≤ (x.l.getD i z3).2.2 ∧ (x.l.getD i z3).2.2 ≤ x.late
  len : x.l.length ≤ k
  rising : Rising x.l
theorem getD_snoc (l : List (Int × Int × Int)) (e : Int × Int × Int) (i : Nat) : (l ++ [e]).getD i z3 = if i < l.length then l.getD i z3 else if i = l.length then e else z3 := by
  by_cases h : i < l.length
  · rw [if_pos h]; simp [List.getElem?_append_left h]
  · rw [if_neg h]
    by_cases h2 : i = l.length
    · subst h2; simp
    · rw [if_neg h2]
      have h3 : l.length + 1 ≤ i := by omega
      simp [List.getElem?_eq_none, h3]
theorem laid_step {gap : Int} {sizes times : List Int} {k : Nat} {x : IxM} (h : LaidInv gap sizes times k x) : LaidInv gap sizes times (k + 1) (noteX x (3 * k : Nat) (placeAt sizes k : Nat) (timeAt times k : Nat)) := by
  have ht := timeAt_lt times k
  have hlt := h.late
  have hlate : x.late ≤ (if x.late < ((timeAt times k : Nat) : Int) then ((timeAt times k : Nat) : Int) else x.late) ∧ (if x.late < ((timeAt times k : Nat) : Int) then ((timeAt times k : Nat) : Int) else x.late) < 1000 := by
    split <;> omega
  have hlen : (if addsM x (placeAt sizes k : Nat) then x.l ++ [(((3 * k : Nat) : Int), ((placeAt sizes k : Nat) : Int), x.late)] else x.l).length ≤ k + 1 := by
    have := h.len
    split <;> simp <;> omega
  refine ⟨h.gap, ⟨by show ((3 * k : Nat) : Int) < _; omega, by show -1 ≤ ((3 * k : Nat) : Int); omega⟩, .inr ⟨by omega, rfl⟩, ⟨by show -1 ≤ _; exact Int.le_trans hlt.1 hlate.1, hlate.2⟩, ?_, hlen, ?_⟩
  · intro i hi
    simp only [noteX] at hi ⊢
    split at hi
    · rename_i ha
      rw [if_pos ha, getD_snoc]
      by_cases h1 : i < x.l.length
      · rw [if_pos h1]
        obtain ⟨j, hj, e1, e2, e3, e4⟩ := h.ents i h1
        exact ⟨j, by omega, e1, e2, e3, Int.le_trans e4 hlate.1⟩
      · have h2 : i = x.l.length := by simp at hi; omega
        rw [if_neg h1, if_pos h2]
        exact ⟨k, by omega, rfl, rfl, hlt.1, hlate.1⟩
    · rename_i ha
      rw [if_neg ha]
      obtain ⟨j, hj, e1, e2, e3, e4⟩ := h.ents i hi
      exact ⟨j, by omega, e1, e2, e3, Int.le_trans e4 hlate.1⟩
  · simp only [noteX]
    split
    · intro i j hij hj
      rw [List.length_append, List.length_singleton] at hj
      rw [getD_snoc, getD_snoc]
      by_cases h1 : j < x.l.length
      · rw [if_pos h1, if_pos (by omega)]
        exact h.rising i j hij h1
      · have h2 : j = x.l.length := by omega
        rw [if_neg h1, if_pos h2]
        by_cases h3 : i < x.l.length
        · rw [if_pos h3]
          obtain ⟨q, hq, e1, e2, e3, e4⟩ := h.ents i h3
          exact ⟨by rw [e1]; show ((3 * q : Nat) : Int) ≤ ((3 * k : Nat) : Int); omega, e4⟩
        · rw [if_neg h3, if_pos (by omega)]
          exact ⟨Int.le_refl _, Int.le_refl _⟩
    · exact h.rising
theorem laid_inv (gap : Int) (sizes times : List Int) : ∀ k, LaidInv gap sizes times k (ixAt gap sizes times k)
  | 0 => ⟨rfl, ⟨by show (-1 : Int) < _; omega, Int.le_refl _⟩, .inl ⟨rfl, rfl⟩, ⟨Int.le_refl _, by show (-1 : Int) < 1000; omega⟩, fun i hi => by simp [ixAt, newM] at hi, Nat.le_refl _, rising_nil0⟩
  | k + 1 => laid_step (laid_inv gap sizes times k)
end Go.Proofs.Ytklbbpicfhalcaa
