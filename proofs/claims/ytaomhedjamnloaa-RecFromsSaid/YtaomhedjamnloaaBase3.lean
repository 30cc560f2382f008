/- Stores into rows of the call's own, and what they leave. -/
import Derived.Test.YtaomhedjamnloaaBase2
set_option linter.unusedVariables false
set_option linter.unusedSimpArgs false
namespace Go.Proofs.Ytaomhedjamnloaa
open Go Go.RowKit
theorem heap_set_ne (w : World) (p : Addr) (u : Value) (k : Nat) (h : k ≠ p.block) : (w.setCell p u).heap[k]? = w.heap[k]? := Below.heap_setCell w p u k h
theorem Own.set_ne {α : Type} {d : Kd α} {e : TypeId} {w : World} {B : Nat} {F : Nat → Prop} {v : Value} {xs : List α} (h : Own d e w B F v xs) {p : Addr} {u : Value} (hv : ∀ k, v.ownBlock = some k → k ≠ p.block) (hF : ∀ k, F k → k ≠ p.block) :
    Own d e (w.setCell p u) B F v xs := h.move (fun k hk => heap_set_ne w p u k (hv k hk)) fun k hk => heap_set_ne w p u k (hF k hk)
theorem Row.set_ne {α : Type} {d : Kd α} {w : World} {F : Nat → Prop} {A : Option Addr} {xs : List α} (h : Row d w F A xs) {p : Addr} {u : Value} (hF : ∀ k, F k → k ≠ p.block) : Row d (w.setCell p u) F A xs := h.move fun k hk => heap_set_ne w p u k (hF k hk)
/-- A cell of a row of the call's own: it may be written. -/
theorem Own.put1 {α : Type} {d : Kd α} (hd : d.sz = 1) {e : TypeId} {w : World} {B : Nat} {F : Nat → Prop} {v : Value} {xs : List α} (h : Own d e w B F v xs) (k : Nat) (hk : k < xs.length) :
    ∃ g c u, v = .slice (some ⟨g, 0, none⟩) xs.length c ∧ B ≤ g ∧ w.cell? ⟨g, k, none⟩ = some u ∧ d.K w F xs[k] [u] ∧ w.frozen? ⟨g, k, none⟩ = false ∧
      ∀ (y : α) (u' : Value), (∀ w', (∀ j, F j → w'.heap[j]? = w.heap[j]?) → d.K w' F y [u']) → (∀ j, F j → j ≠ g) → Own d e (w.setCell ⟨g, k, none⟩ u') B F v (xs.set k y) := by
  obtain ⟨cs, ⟨h1, h2⟩, hr⟩ := h
  rcases h2 with ⟨_, h0⟩ | ⟨g, cap, cur, rfl, hg, hh, hn, hm, hs, ht⟩
  · omega
  · rw [hd] at hs ht h1
    rw [Nat.mul_one] at hs ht h1
    have hkc : k < cur.size := by omega
    have hcell : w.cell? ⟨g, k, none⟩ = some cur[k] := by simp [World.cell?, hh, hkc]
    obtain ⟨c1, hc1, hK, hget⟩ := hr.get k hk
    rw [hd] at hc1 hget
    match c1, hc1 with
    | [u], _ =>
      have hu : u = cur[k] := by
        have h3 := hget 0 u rfl
        rw [← ht, Nat.mul_one, Nat.add_zero, List.getElem?_take, if_pos hk] at h3
        simp [hkc] at h3
        exact h3.symm
      refine ⟨g, cap, u, rfl, hg, by rw [hcell, hu], hK, by simp [World.frozen?, hh], fun y u' hy hFg => ?_⟩
      have hheap : (w.setCell ⟨g, k, none⟩ u').heap[g]? = some (.cells (cur.setIfInBounds k u') e (0, 0)) := by
        simp only [World.setCell, Array.getElem?_modify, if_true, hh, Option.map_some]
        rfl
      have hoth : ∀ j, F j → (w.setCell ⟨g, k, none⟩ u').heap[j]? = w.heap[j]? := fun j hj => heap_set_ne _ _ _ _ (hFg j hj)
      refine ⟨cs.set k u', ⟨?_, .inr ⟨g, cap, _, ?_, hg, hheap, ?_, hm, ?_, ?_⟩⟩, ?_⟩
      · rw [List.length_set, List.length_set, hd]; omega
      · rw [List.length_set]
      · rw [List.length_set]; exact hn
      · rw [Array.size_setIfInBounds, hd]; omega
      · rw [List.length_set, hd, Nat.mul_one, Array.toList_setIfInBounds, ← ht, List.take_set]
      · have hmv : Reps (d.K (w.setCell ⟨g, k, none⟩ u') F) d.sz xs cs := hr.imp fun _ _ q => d.move q hoth
        have := hmv.set k hk (d := [u']) (by rw [hd]; rfl) (hy _ hoth)
        rw [hd, Nat.mul_one] at this
        have e2 : cs.take k ++ [u'] ++ cs.drop (k + 1) = cs.set k u' := by
          have hkl : k < cs.length := by omega
          rw [List.set_eq_take_append_cons_drop, if_pos hkl, List.append_assoc]
          rfl
        rw [e2] at this
        rw [hd]
        exact this
theorem add_zero_block (g k : Nat) : (⟨g, 0, none⟩ : Addr).add k = ⟨g, k, none⟩ := by unfold Addr.add; split <;> simp_all
end Go.Proofs.Ytaomhedjamnloaa
