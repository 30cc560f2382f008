/- The document's reader: Texts, Ints. -/
import Derived.Test.YtaomhedjamnloaaRRd5
set_option linter.unusedVariables false
set_option linter.unusedSimpArgs false
namespace Go.Proofs.Ytaomhedjamnloaa
open Go Go.RowKit

def QList {α : Type} (d : Kd α) (e : TypeId) (w : World) (B g : Nat) (A : Option Addr) (c : Nat) (y : RdM) (l : List α) (en : Ending) (w' : World) : Prop := ∃ v, en = .returned v ∧ Own d e w' w.heap.size (fun _ => False) v l ∧ QAt w' B g A c y ∧ Mut g w w'
theorem QAt.grown {w W w4 : World} {B g : Nat} {A : Option Addr} {c : Nat} {x y : RdM} {o : Obj} {row : Option Nat} (h0 : QAt w B g A c x) (h : QAt W B g A c y) (hw : w.heap.size ≤ W.heap.size) (hg : (W.alloc o).grownBy w4 row) (hr : ∀ j, row = some j → w.heap.size ≤ j) : QAt w4 B g A c y := by
  have hs : (W.alloc o).heap.size = W.heap.size + 1 := by simp
  have h1 := hg.size
  refine h.move (by omega) fun k hk hor => ?_
  have hkw : k < w.heap.size := by
    rcases hor with rfl | ⟨a, ha, rfl⟩
    · exact h0.lt
    · exact (h0.far a ha).2
  exact (hg.block k (by omega) (fun e => by have := hr k e.symm; omega)).trans (heap_alloc_old W o hk)
theorem listR_many {α : Type} (f : RdM → α × RdM) (x : RdM) (count : Int) : listR f x count =
    (if (manyR f (UintR x).1 (ManyR x count)).2.err = 0 then manyR f (UintR x).1 (ManyR x count) else ([], backR x (manyR f (UintR x).1 (ManyR x count)).2)) := by
  unfold listR
  by_cases he : x.err = 0
  · have hU : UintR x = uintR x := if_pos he
    have hM : ManyR x count = countR x count := by
      by_cases hy : (uintR x).2.err = 0
      · by_cases hl : (max count 0).toNat < (uintR x).1
        · simp [ManyR, countR, selR, longB, hU, hy, hl]
        · simp [ManyR, countR, selR, longB, hU, hy, hl]
      · simp [ManyR, countR, selR, longB, hU, hy]
    rw [if_pos he, hU, hM]
  · have hM : ManyR x count = x := by
      unfold ManyR
      rw [UintR_bad he]
      simp only
      rw [decide_eq_false he]
      rfl
    rw [if_neg he, hM, UintR_bad he, if_neg (show ¬ (manyR f ((0, x) : Nat × RdM).1 x).2.err = 0 from he)]
    show ([], x) = ([], backR x x)
    rw [backR_same rfl]
theorem ManyR_bs (x : RdM) (count : Int) : (ManyR x count).bs = x.bs := by
  unfold ManyR selR
  split
  · rw [failR_bs, UintR_bs]
  · exact UintR_bs x
end Go.Proofs.Ytaomhedjamnloaa
