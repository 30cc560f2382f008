/- Batches and their rows: what an argument reads as. -/
import Derived.Test.YtaomhedjamnloaaRecB
import Derived.Test.YtaomhedjamnloaaOpen
import Derived.Test.YtaomhedjamnloaaRowBase
set_option linter.unusedVariables false
set_option linter.unusedSimpArgs false
namespace Go.Proofs.Ytaomhedjamnloaa
open Go Go.RowKit Go.ChangeShapes Go.WideShapes

abbrev BtT := Int × Int × Int × Int × Int × Int × List Rc
def btK : Kd BtT := pair (num .i64) (pair (num .i64) (pair (num .i64) (pair (num .i64) (pair (num .i64) (pair (num .i64) (slk recK))))))
def ofB (t : BtT) : BtM := ⟨t.1, t.2.1, t.2.2.1, t.2.2.2.1, t.2.2.2.2.1, t.2.2.2.2.2.1, t.2.2.2.2.2.2⟩
set_option maxRecDepth 100000 in
theorem opens_rec : Opens Try.prog 54 recK :=
  opens_struct Try.underlying54 (by kernel_rfl)
    (opensF_cons rfl (opens_string Try.underlying9 (by kernel_rfl)) (opensF_cons rfl (opens_string Try.underlying9 (by kernel_rfl)) (opensF_cons rfl (opens_bool Try.underlying4 (by kernel_rfl)) (opensF_last rfl (opens_int Try.underlying2 (by kernel_rfl))))))
theorem opens_recs : Opens Try.prog 22 (slk recK) := opens_slice Try.underlying22 (by kernel_rfl) opens_rec
set_option maxRecDepth 100000 in
theorem opens_bt : Opens Try.prog 24 btK :=
  opens_struct Try.underlying24 (by kernel_rfl)
    (opensF_cons rfl (opens_int Try.underlying2 (by kernel_rfl)) (opensF_cons rfl (opens_int Try.underlying2 (by kernel_rfl)) (opensF_cons rfl (opens_int Try.underlying3 (by kernel_rfl)) (opensF_cons rfl (opens_int Try.underlying3 (by kernel_rfl))
      (opensF_cons rfl (opens_int Try.underlying3 (by kernel_rfl)) (opensF_cons rfl (opens_int Try.underlying2 (by kernel_rfl)) (opensF_last rfl opens_recs)))))))
/-- A batch's cells. -/
theorem bt_of {w : World} {F : Nat → Prop} {t : BtT} {cs : List Value} (h : btK.K w F t cs) : ∃ A c, cs = (btC (ofB t) A c).toList ∧ BtOk (ofB t) ∧ (t.2.2.2.2.2.2.length ≤ c ∧ c ≤ maxLen) ∧ Row recK w F A t.2.2.2.2.2.2 := by
  obtain ⟨c0, r0, rfl, k0, c1, r1, rfl, k1, c2, r2, rfl, k2, c3, r3, rfl, k3, c4, r4, rfl, k4, c5, c6, rfl, k5, k6⟩ := h
  obtain ⟨e0, w0⟩ := k0
  obtain ⟨e1, w1⟩ := k1
  obtain ⟨e2, w2⟩ := k2
  obtain ⟨e3, w3⟩ := k3
  obtain ⟨e4, w4⟩ := k4
  obtain ⟨e5, w5⟩ := k5
  obtain ⟨v, e6, A, c, rfl, l1, l2, hr⟩ := k6
  subst e0; subst e1; subst e2; subst e3; subst e4; subst e5; subst e6
  exact ⟨A, c, rfl, ⟨i64_of_wf w0, i64_of_wf w1, i64_of_wf w2, i64_of_wf w3, i64_of_wf w4, i64_of_wf w5⟩, ⟨l1, l2⟩, hr⟩
set_option maxRecDepth 100000 in
/-- A batch that came in as an argument. -/
theorem open_bt {H : Type} {enc : TypeId × Value → H} {w : World} {base : Nat} {spare : Nat → Bool} {held : Bool} {r : Reach} {b0 : Nat} {v : Value} {dd : DataW H} {ps : List MemPlace}
    (hval : Value.okWide Try.prog w r b0 24 v) (h : DataW.Trod enc Try.prog w base spare held 24 v dd ps) :
    ∃ b A c, v = .agg (btC b A c) ∧ BtAt w w.heap.size b A c := by
  obtain ⟨cs, rfl, _⟩ := okWide_struct Try.underlying24 hval
  obtain ⟨fuel, hf⟩ := h
  have hf2 := opens_bt.2 hf
  clear hf hval
  obtain ⟨t, ht⟩ := hf2
  obtain ⟨A, c, e, hk, hl, hr⟩ := bt_of ht
  exact ⟨ofB t, A, c, by rw [← (Array.ext' e : cs = btC (ofB t) A c)], hk, hl, hr⟩
end Go.Proofs.Ytaomhedjamnloaa
