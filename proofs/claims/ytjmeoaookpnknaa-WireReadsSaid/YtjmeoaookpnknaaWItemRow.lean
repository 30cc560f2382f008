/- Rows of items: what an argument reads as. -/
import Derived.Test.YtjmeoaookpnknaaWItem
import Derived.Test.YtjmeoaookpnknaaOpen
import Derived.Test.YtjmeoaookpnknaaRowBase
set_option linter.unusedVariables false
set_option linter.unusedSimpArgs false
namespace Go.Proofs.Ytjmeoaookpnknaa
open Go Go.RowKit

def itK : Kd (Int × Int × Int × Int × ByteArray × Bool × List ByteArray × List Int) :=
  pair (num .i64) (pair (num .u64) (pair (num .i64) (pair (num .i64) (pair str (pair boo (pair (slk str) (slk (num .i64))))))))
def ofT (t : Int × Int × Int × Int × ByteArray × Bool × List ByteArray × List Int) : ItM := ⟨t.1, t.2.1.toNat, t.2.2.1, t.2.2.2.1, t.2.2.2.2.1, t.2.2.2.2.2.1, t.2.2.2.2.2.2.1, t.2.2.2.2.2.2.2⟩
theorem it_at {w : World} {F : Nat → Prop} {A : Option Addr} {xs : List (Int × Int × Int × Int × ByteArray × Bool × List ByteArray × List Int)} {B : Nat} (h : Row itK w F A xs) (hF : ∀ k, F k → k < B) (k : Nat) (hk : k < xs.length) :
    ∃ ad Al cl Ai ci, A = some ad ∧ (ofT xs[k]).s.size ≤ maxLen ∧ ItAt w B (ofT xs[k]) Al cl Ai ci ∧ w.cell? (ad.add (k * 8)) = some (.int .i64 (ofT xs[k]).kind) ∧
      (∀ j u, 0 < j → (itC (ofT xs[k]) Al cl Ai ci)[j]? = some u → w.cell? ⟨(ad.add (k * 8)).block, (ad.add (k * 8)).off + j, Option.none⟩ = some u) := by
  obtain ⟨ad, c, e, hf, hl, hK, hc⟩ := h.get k hk
  obtain ⟨c0, r0, rfl, k0, c1, r1, rfl, k1, c2, r2, rfl, k2, c3, r3, rfl, k3, c4, r4, rfl, k4, c5, r5, rfl, k5, c6, r6, rfl, k6, k7⟩ := hK
  obtain ⟨e0, w0⟩ := k0
  obtain ⟨e1, w1⟩ := k1
  obtain ⟨e2, w2⟩ := k2
  obtain ⟨e3, w3⟩ := k3
  obtain ⟨e4, w4⟩ := k4
  obtain ⟨e5, _⟩ := k5
  obtain ⟨v6, e6, Al, cl, rfl, l1, l2, hrl⟩ := k6
  obtain ⟨v7, e7, Ai, ci, rfl, i1, i2, hri⟩ := k7
  subst e0
  subst e1
  subst e2
  subst e3
  subst e4
  subst e5
  subst e6
  subst e7
  have hu : 0 ≤ xs[k].2.1 ∧ xs[k].2.1 ≤ 18446744073709551615 := by simpa [Lit.wf, IntKind.min, IntKind.max, IntKind.signed, IntKind.bits] using w1
  have hcu : (((ofT xs[k]).u : Nat) : Int) = xs[k].2.1 := Int.toNat_of_nonneg hu.1
  refine ⟨ad, Al, cl, Ai, ci, e, w4, ⟨⟨?_, i64_of_wf w2, i64_of_wf w3⟩, ⟨l1, l2⟩, ⟨i1, i2⟩, hrl.mono hF, hri.mono hF⟩, hc 0 _ rfl, fun j u hj hu2 => ?_⟩
  · show (xs[k].2.1.toNat) < _
    omega
  · have hja : ∀ j, 0 < j → ad.add (k * 8 + j) = ⟨(ad.add (k * 8)).block, (ad.add (k * 8)).off + j, Option.none⟩ := fun j hj => by
      rw [← Addr.add_add]
      unfold Addr.add
      split
      · omega
      · rfl
    have := hc j u (by
      rw [← hu2]
      unfold itC
      rw [hcu]
      match j, hj with
      | 1, _ => rfl
      | 2, _ => rfl
      | 3, _ => rfl
      | 4, _ => rfl
      | 5, _ => rfl
      | 6, _ => rfl
      | 7, _ => rfl
      | j + 8, _ => simp)
    rw [show itK.sz = 8 from rfl, hja j hj] at this
    exact this
theorem opens_item : Opens Try.prog 33 itK :=
  opens_struct Try.underlying33 (by kernel_rfl)
    (opensF_cons rfl (opens_int Try.underlying3 (by kernel_rfl)) (opensF_cons rfl (opens_int Try.underlying22 (by kernel_rfl)) (opensF_cons rfl (opens_int Try.underlying2 (by kernel_rfl)) (opensF_cons rfl (opens_int Try.underlying3 (by kernel_rfl))
      (opensF_cons rfl (opens_string Try.underlying9 (by kernel_rfl)) (opensF_cons rfl (opens_bool Try.underlying4 (by kernel_rfl))
        (opensF_cons rfl (opens_slice Try.underlying30 (by kernel_rfl) (opens_string Try.underlying9 (by kernel_rfl))) (opensF_last rfl (opens_slice Try.underlying31 (by kernel_rfl) (opens_int Try.underlying2 (by kernel_rfl)))))))))))
theorem opens_items : Opens Try.prog 28 (slk itK) := opens_slice Try.underlying28 (by kernel_rfl) opens_item
end Go.Proofs.Ytjmeoaookpnknaa
