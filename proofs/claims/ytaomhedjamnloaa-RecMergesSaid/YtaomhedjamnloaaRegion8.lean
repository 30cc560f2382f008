/- A drawn region that writes some cells of one block. -/
import Derived.Test.YtaomhedjamnloaaRegion5
import Derived.Test.YtaomhedjamnloaaPut
set_option linter.unusedVariables false
set_option linter.unusedSimpArgs false
namespace Go.Proofs.Ytaomhedjamnloaa
open Go Go.RowKit

/-- Block r alone has changed: some of its cells, each to the value that is named for it. -/
structure Fld (r : Nat) (t : TypeId) (nw : Nat → Option Value) (w w' : World) : Prop where
  os : w'.os = w.os
  tape : w'.tape = w.tape
  output : w'.output = w.output
  size : w.heap.size ≤ w'.heap.size
  block : ∀ k, k < w.heap.size → k ≠ r → w'.heap[k]? = w.heap[k]?
  fld : ∀ cs, w.heap[r]? = some (.cells cs t (0, 0)) → ∃ cs', w'.heap[r]? = some (.cells cs' t (0, 0)) ∧ cs'.size = cs.size ∧ ∀ i, cs'[i]? = cs[i]? ∨ ∃ v, nw i = some v ∧ cs'[i]? = some v
theorem Fld.refl (r : Nat) (t : TypeId) (nw : Nat → Option Value) (w : World) : Fld r t nw w w := ⟨rfl, rfl, rfl, Nat.le_refl _, fun _ _ _ => rfl, fun cs h => ⟨cs, h, rfl, fun _ => .inl rfl⟩⟩
theorem Fld.trans (r : Nat) (t : TypeId) (nw : Nat → Option Value) (u v w : World) (h : Fld r t nw u v) (k : Fld r t nw v w) : Fld r t nw u w :=
  ⟨k.os.trans h.os, k.tape.trans h.tape, k.output.trans h.output, Nat.le_trans h.size k.size, fun i hi hr => (k.block i (Nat.lt_of_lt_of_le hi h.size) hr).trans (h.block i hi hr), fun cs hc => by
    obtain ⟨c1, h1, h2, h3⟩ := h.fld cs hc
    obtain ⟨c2, k1, k2, k3⟩ := k.fld c1 h1
    refine ⟨c2, k1, k2.trans h2, fun i => ?_⟩
    rcases k3 i with e | e
    · rw [e]; exact h3 i
    · exact .inr e⟩
theorem Fld.drew (r : Nat) (t : TypeId) (nw : Nat → Option Value) (w : World) : Fld r t nw w { w with drawn := w.drawn + 1 } := ⟨rfl, rfl, rfl, Nat.le_refl _, fun _ _ _ => rfl, fun cs h => ⟨cs, h, rfl, fun _ => .inl rfl⟩⟩
theorem Fld.mut {r : Nat} {t : TypeId} {nw : Nat → Option Value} {w w' : World} (h : Fld r t nw w w') : ∀ k, k < w.heap.size → k ≠ r → w'.heap[k]? = w.heap[k]? := h.block
theorem Fld.of {r : Nat} {t : TypeId} {nw : Nat → Option Value} {w w' : World} (hr : r < w.heap.size) (h : Ext w w') : Fld r t nw w w' := ⟨h.os, h.tape, h.output, h.size, fun k hk _ => h.block k hk, fun cs hc => ⟨cs, (h.block r hr).trans hc, rfl, fun _ => .inl rfl⟩⟩
/-- The cell of that number has been written. -/
def SP.at {r : Nat} {t : TypeId} {nw : Nat → Option Value} (i : Nat) (v : Value) (hv : nw i = some v) : SP (Fld r t nw) := SP.mem (fun w => ∃ cs, w.heap[r]? = some (.cells cs t (0, 0)) ∧ cs[i]? = some v) fun _ _ ⟨cs, h1, h2⟩ h => by
  obtain ⟨c2, k1, k2, k3⟩ := h.fld cs h1
  refine ⟨c2, k1, ?_⟩
  rcases k3 i with e | ⟨u, e1, e2⟩
  · rw [e, h2]
  · rw [e2, ← e1, hv]
theorem Fld.put {r : Nat} {t : TypeId} {nw : Nat → Option Value} {w W : World} {cs0 : Array Value} (h : Fld r t nw w W) (h0 : w.heap[r]? = some (.cells cs0 t (0, 0))) (i : Nat) (v : Value) (hv : nw i = some v) (hi : i < cs0.size) :
    ∃ u, W.cell? ⟨r, i, none⟩ = some u ∧ W.frozen? ⟨r, i, none⟩ = false ∧ Fld r t nw W (W.setCell ⟨r, i, none⟩ v) ∧ ∃ cs, (W.setCell ⟨r, i, none⟩ v).heap[r]? = some (.cells cs t (0, 0)) ∧ cs[i]? = some v := by
  obtain ⟨cs, h1, h2, h3⟩ := h.fld cs0 h0
  have hic : i < cs.size := by omega
  have hp := putAt_set h1 i v
  refine ⟨cs[i], by simp [World.cell?, h1, hic], frozen_of h1 i, ⟨hp.os, hp.tape, hp.output, by rw [hp.size]; exact Nat.le_refl _, fun k _ hk => hp.block k hk, fun cs' h' => ?_⟩, _, hp.obj, by simp [hic]⟩
  rw [h1] at h'
  injection h' with h'
  injection h' with e1
  subst e1
  refine ⟨_, hp.obj, by simp, fun j => ?_⟩
  by_cases hj : i = j
  · subst hj
    exact .inr ⟨v, hv, by simp [hic]⟩
  · left
    rw [Array.getElem?_setIfInBounds_ne hj]
/-- What seven cells are behind it. -/
theorem Fld.seven {r : Nat} {t : TypeId} {nw : Nat → Option Value} {w W : World} {cs0 : Array Value} (h : Fld r t nw w W) (h0 : w.heap[r]? = some (.cells cs0 t (0, 0))) (hs : cs0.size = 7) (u0 u1 u2 u3 u4 u5 u6 : Value)
    (h1 : ∀ i v, #[u0, u1, u2, u3, u4, u5, u6][i]? = some v → (cs0[i]? = some v ∧ nw i = none) ∨ ∃ cs, W.heap[r]? = some (.cells cs t (0, 0)) ∧ cs[i]? = some v) : W.heap[r]? = some (.cells #[u0, u1, u2, u3, u4, u5, u6] t (0, 0)) := by
  obtain ⟨cs, g1, g2, g3⟩ := h.fld cs0 h0
  have key : ∀ i v, #[u0, u1, u2, u3, u4, u5, u6][i]? = some v → cs[i]? = some v := fun i v hv => by
    rcases h1 i v hv with ⟨e1, e2⟩ | ⟨cs2, e1, e2⟩
    · rcases g3 i with e | ⟨u, e, _⟩
      · rw [e, e1]
      · rw [e2] at e; cases e
    · rw [g1] at e1
      injection e1 with e1
      injection e1 with e1
      rw [e1, e2]
  have e : cs = #[u0, u1, u2, u3, u4, u5, u6] := by
    apply Array.ext (by rw [g2, hs]; rfl)
    intro i hi hi2
    have := key i _ (Array.getElem?_eq_getElem hi2)
    rw [Array.getElem?_eq_getElem hi] at this
    injection this
  rw [g1, e]
end Go.Proofs.Ytaomhedjamnloaa
