/- RecMerges, for every input: the law answers true, and its arguments read as they did. No condition. -/
import Derived.Test.YtaomhedjamnloaaRecOpen
import Derived.Test.YtaomhedjamnloaaLawMg
set_option linter.unusedVariables false
set_option linter.unusedSimpArgs false
namespace Go.Proofs.Ytaomhedjamnloaa
open Go Go.ChangeShapes Go.WideShapes Go.ChangeAt Go.RowKit
open Go.ChangeMaps (open_string shut_string)
theorem opens_btM : Opens Try.prog 24 btM := by
  refine ⟨opens_bt.1, ?_⟩
  intro H enc w base spare held fuel cs x hx
  obtain ⟨t, ht⟩ := opens_bt.2 hx
  obtain ⟨A, c, e, hk, hl, hr⟩ := bt_of ht
  exact ⟨ofB t, A, c, e, hk, hl, hr⟩
theorem opens_bts : Opens Try.prog 41 (slk btM) := opens_slice Try.underlying41 (by kernel_rfl) opens_btM
theorem opens_bools : Opens Try.prog 42 (slk boo) := opens_slice Try.underlying42 (by kernel_rfl) (opens_bool Try.underlying4 (by kernel_rfl))
set_option maxRecDepth 100000 in
theorem recMerges_lifted (os : Os) (started : os.Started) (H : Type) (enc : TypeId × Value → H) :
    ReturnsInHanded {} Try.checked os 8 .any (Rows.recMergesSpec.pre6 enc Try.prog Try.f8 Rows.recMergesRow.domain false) (Rows.recMergesSpec.post enc Try.prog Try.f8 false true false false) := by
  refine returnsInHanded_of_change_sized (C := Try.checked) own started (by kernel_rfl) Try.func8
    (ChangeSpec.witness6 (enc := enc) (C := Try.checked) false ⟨#[], #[.slice none 0 0, .slice none 0 0], []⟩ 8 (by kernel_rfl) (by kernel_rfl) (by kernel_rfl) (by kernel_rfl)) ?_
  intro W base args ds gs before hval0 hW hcnd hsz0 _
  have hval : ∀ (j : Nat) t v, Try.f8.params[j]? = some t → args[j]? = some v → Value.okWide Try.prog W .any base t v := hval0
  have hW' := hW
  obtain ⟨p, q, hA0, hV, rfl, hfz, hnd⟩ := hW
  have hA : DataW.TrodAll enc Try.prog W 0 (fun _ => true) true Try.f8.params.toList args.toList ds p := hA0
  rw [Try.params8] at hA hval
  obtain ⟨v0, vs0, d0, ds0, p0, q0, hargs, rfl, rfl, h0, r0⟩ := trodAll_cons hA
  obtain ⟨v1, vs1, d1, ds1, p1, q1, rfl, rfl, rfl, h1, r1⟩ := trodAll_cons r0
  obtain ⟨rfl, rfl, rfl⟩ := trodAll_nil r1
  obtain rfl : args = #[v0, v1] := by cases args; simp_all
  obtain ⟨rfl, rfl⟩ := trodVars_none hV
  have k0 := h0
  have lt0 : ∀ x ∈ p0, x.block < W.heap.size := by obtain ⟨m, hm⟩ := k0; exact DataW.trod_lt m _ _ _ hm
  obtain ⟨A0, c0, xs0, rfl, hc0, hm0, hr0⟩ := open_arg Try.underlying41 opens_bts (hval 0 41 v0 rfl rfl) h0
  have k1 := h1
  have lt1 : ∀ x ∈ p1, x.block < W.heap.size := by obtain ⟨m, hm⟩ := k1; exact DataW.trod_lt m _ _ _ hm
  obtain ⟨A1, c1, xs1, rfl, hc1, hm1, hr1⟩ := open_arg Try.underlying42 opens_bools (hval 1 42 v1 rfl rfl) h1
  clear hA0 hval0 hsz0
  refine (RecMerges_calls A0 c0 xs0 A1 c1 xs1 W hc0 hm0 hr0 hc1 hm1 hr1).mono fun e W' ⟨he, bel⟩ => ?_
  subst he
  exact ⟨_, rfl, _, _, _, [], _, [], hW', trodAll_mk1 (shut_bool Try.underlying4 _), (trodAll_cons_mk (Below.trod laidOut (by kernel_rfl) (of_decide_eq_true (by kernel_rfl)) k0 bel lt0) (trodAll_cons_mk (Below.trod laidOut (by kernel_rfl) (of_decide_eq_true (by kernel_rfl)) k1 bel lt1) trodAll_mk0)), rfl, bel.frame _, fun h => by cases h⟩
theorem recMerges_over : Rows.recMergesRow.holds Try.pinned (OpenSpec.ofChange Rows.recMergesSpec) :=
  OpenClaim.holds_of_wide 8 Try.f8 rfl rfl rfl rfl rfl rfl rfl ⟨rfl, rfl, rfl, rfl, rfl⟩ rfl rfl rfl rfl rfl (by kernel_rfl) Try.func8 (by kernel_rfl)
    (of_decide_eq_true (by kernel_rfl)) (by unfold Func.isWrapper; first | (rw [if_pos (by decide +kernel)]; kernel_rfl) | (rw [if_neg (by decide +kernel)]; exact ⟨rfl, rfl⟩))
    (fun os started H enc _ => recMerges_lifted os started H enc)
theorem recMerges_holds : Rows.RecMergesSaid := recMerges_over
#print axioms recMerges_holds
end Go.Proofs.Ytaomhedjamnloaa
