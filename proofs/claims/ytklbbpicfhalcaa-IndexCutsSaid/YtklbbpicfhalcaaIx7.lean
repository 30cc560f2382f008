/- Contracts: All (slices.Clone). -/
import Derived.Test.YtklbbpicfhalcaaIx3
import Derived.WalkSpells
set_option linter.unusedVariables false
set_option linter.unusedSimpArgs false
namespace Go.Proofs.Ytklbbpicfhalcaa
open Go Go.RowKit

def AllPost (w : World) (l : List (Int × Int × Int)) (e : Ending) (w' : World) : Prop := ∃ va, e = .returned va ∧ Own ent 28 w' w.heap.size (fun _ => False) va l ∧ Ext w w'
set_option maxRecDepth 8000 in
set_option maxHeartbeats 2000000 in
theorem CloneE_calls (A : Option Addr) (c : Nat) (l : List (Int × Int × Int)) (w : World) (F : Nat → Prop) (hl : l.length ≤ 1099511627776) (hc : l.length ≤ c) (hm : c ≤ maxLen) (hr : Row ent w F A l) :
    Calls Try.prog 32 #[.slice A l.length c] w (AllPost w l) := by
  cases A with
  | none =>
    obtain rfl : l = [] := by
      cases l with
      | nil => rfl
      | cons x l => obtain ⟨_, h, _⟩ := hr.ent_at 0 (by simp); cases h
    have hm' := hm
    unfold maxLen at hm'
    have he := fun w => Lib.run_eql_slice_nil (P := Try.prog) w 40 28 none 0 c 0 0 Try.underlying40
    go_enter Try.func32, Try.ntmps32
    go_wp2
    go_ret
    exact ⟨_, rfl, Own.nil _ _ _ _ _, Ext.refl _⟩
  | some ad =>
    have he := fun w => Lib.run_eql_slice_nil (P := Try.prog) w 40 28 (some ad) l.length c 0 0 Try.underlying40
    have h0 := Own.lit (d := ent) (e := 28) w (Nat.le_refl _) (F := fun _ => False) [] [] 0 rfl (by decide) rfl
    have hsl : Sl ent (w.alloc (.cells #[] 28)) F (.slice (some ad) l.length c) l := ⟨_, _, rfl, hc, hm, hr.alloc _⟩
    go_enter Try.func32, Try.ntmps32
    go_wp2_with (at_builtin; go_must (refine app_flat ent flat_ent w.heap.size rfl (.tmp 5) (.tmp 6) 40 28 24 rfl Try.underlying40 info_ent _ _ [] l _ _ rfl rfl h0 hsl (by simp; omega) (by simp [maxLen]; omega) (by simp) ?_; intro va w1 ho1 hg1 ha1))
    go_ret
    exact ⟨_, rfl, ho1, ((Below.refl _ _).alloc (Nat.le_refl _) _).grown hg1 (by simp) (by intro k hk; cases hk; exact Nat.le_refl _)⟩
set_option maxRecDepth 8000 in
set_option maxHeartbeats 2000000 in
theorem All_calls (w : World) (B g : Nat) (v : Value) (x : IxM) (h : IxAt w B g v x) (hl : x.l.length ≤ 1099511627776) :
    Calls Try.prog 17 #[.pointer (some ⟨g, 0, none⟩)] w (AllPost w x.l) := by
  obtain ⟨A, c, rfl, hc, hm, hr⟩ := h.2.2.sl
  obtain ⟨h0, h1, h2, h3, h4⟩ := h.cells
  have Hc := Lib.hid (CloneE_calls A c x.l w _ hl hc hm hr)
  clear hr h
  go_enter Try.func17, Try.ntmps17
  go_wp2_with fail
  refine Hc.out.mono ?_
  rintro e w1 ⟨va, rfl, ho, hE⟩
  go_wp2
  go_ret
  exact ⟨va, rfl, ho, hE⟩
end Go.Proofs.Ytklbbpicfhalcaa
