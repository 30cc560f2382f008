/- The document's reader: Within, many, Text. -/
import Derived.Test.YtaomhedjamnloaaRRd3
set_option linter.unusedVariables false
set_option linter.unusedSimpArgs false
namespace Go.Proofs.Ytaomhedjamnloaa
open Go Go.RowKit

theorem uintR_bad {x : RdM} (h : (uintR x).2.err ≠ 0) : (uintR x).1 = 0 ∨ x.err ≠ 0 := by
  unfold uintR at h ⊢
  cases hg : getU 0 0 (x.bs.drop x.pos) with
  | none => exact .inl rfl
  | some p => rw [hg] at h; exact .inr h
theorem UintR_pos {x : RdM} (h : (UintR x).2.err ≠ 0) : (UintR x).2.pos = x.pos := by
  unfold UintR at h ⊢
  split
  · rename_i he
    rw [if_pos he] at h
    unfold uintR at h ⊢
    cases hg : getU 0 0 (x.bs.drop x.pos) with
    | none => simp only; unfold failR; split <;> rfl
    | some p => rw [hg] at h; exact absurd he h
  · rfl
theorem backR_same {x y : RdM} (h : y.pos = x.pos) : backR x y = y := by
  cases y
  simp only at h
  unfold backR
  simp only [h]
theorem UintR_bad {x : RdM} (h : x.err ≠ 0) : UintR x = (0, x) := if_neg h
/-- Within, as the document says it. -/
theorem WithinR_eq (x : RdM) (lo hi : Int) : WithinR x lo hi =
    (if (IntR x).2.err = 0 then (if (IntR x).1 < lo ∨ hi < (IntR x).1 then (0, backR x (failR (IntR x).2 8)) else IntR x) else (0, backR x (IntR x).2)) := by
  unfold WithinR
  by_cases he : x.err = 0
  · rw [if_pos he]
    by_cases hy : (IntR x).2.err = 0
    · rw [if_pos hy, if_pos hy, show failR (IntR x).2 8 = { (IntR x).2 with err := 8 } from if_pos hy]
      rfl
    · rw [if_neg hy, if_neg hy, show backR x (IntR x).2 = (IntR x).2 from backR_same (UintR_pos hy)]
  · have h2 : (IntR x).2 = x := by show (UintR x).2 = x; rw [UintR_bad he]
    rw [if_neg he, h2, if_neg he, backR_same rfl]
/-- Too many, too long. -/
def longB (most : Int) (n : Nat) : Bool := decide ((max most 0).toNat < n)
/-- Behind a name: the walk parts on every 'if' of its goal. -/
def selR (b : Bool) (y z : RdM) : RdM := if b = true then y else z
def ManyR (x : RdM) (most : Int) : RdM := selR (decide ((UintR x).2.err = 0) && longB most (UintR x).1) (failR (UintR x).2 7) (UintR x).2
end Go.Proofs.Ytaomhedjamnloaa
