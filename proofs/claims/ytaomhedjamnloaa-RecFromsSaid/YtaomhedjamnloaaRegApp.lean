/- append of one element inside a region that draws its order: a row of the call's own, by go_region_law. -/
import Derived.Test.YtaomhedjamnloaaPut
import Derived.Deep.AppendLies
set_option linter.unusedVariables false
set_option linter.unusedSimpArgs false
namespace Go.Proofs.Ytaomhedjamnloaa
open Go Go.RowKit
theorem step_onef {P : Program} {α : Type} (d : Kd α) (hd : Flat d) {w : World} {ops : Array Oper} {o : Oper} {a : Act} {K : Act → World → Prop} {Q : Exit → Act → World → Prop} {E : Prop} (B : Nat) (hgd : o.guard = none) (s x : Operand) (t e by_ : Nat)
    (ho : o.op = .call { callee := .builtin .append, args := #[s, x], argTypes := #[t, t] })
    (ht : P.underlying t = some (.slice e)) (hi : (P.info? e).map (fun i => (i.zero.map (fun z => z.cells.size), i.size, i.bytes)) = some (some d.sz, d.sz, by_))
    (v : Value) (xs : List α) (y : α) (b : Nat) (us : List Value) (F : Nat → Prop) (hs : a.eval s = v) (hx : a.eval x = .slice (some ⟨b, 0, none⟩) 1 1) (hown : Own d e w B F v xs)
    (hc : ∀ j u, us[j]? = some u → w.cell? ((⟨b, 0, none⟩ : Addr).add j) = some u) (hK : d.K w F y us)
    (hl : (xs.length + 1) * by_ ≤ 140737488355328) (hm : xs.length + 1 ≤ maxLen) (hB : B ≤ w.heap.size)
    (h : ∀ v1 w1, Own d e w1 B (fun _ => False) v1 (xs ++ [y]) → w.grownBy w1 v.ownBlock → (v1.ownBlock = v.ownBlock ∨ v1.ownBlock = some w.heap.size) → K (a.put o.dst v1) w1) :
    if Region.wanted o (yielded ops a.tmps) = true then Oper.wp P o a w K Q else E := by
  obtain ⟨i, hi1, hi2⟩ := Option.map_eq_some_iff.1 hi
  simp only [Prod.mk.injEq] at hi2
  obtain ⟨hz, hsz, hby⟩ := hi2
  obtain ⟨z, hz1, hz2⟩ := Option.map_eq_some_iff.1 hz
  obtain ⟨cs, hrow, hreps⟩ := hown
  have hlen := d.len hK
  refine step_append_lies w hgd s x t ho B e i z d.sz by_ ht hi1 hz1 hsz hby hz2 d.pos v xs.length cs hs hrow ⟨b, 0, none⟩ 1 1 us hx (by rw [Nat.one_mul]; exact hlen) hc (d.one hK) (by omega) hm hl hB _ rfl ?_
  intro g cap w' h1 h2 h3 _
  refine h _ w' ⟨cs ++ us, by rw [List.length_append]; exact h1, Reps.append (hreps.imp fun _ _ k => hd _ _ _ _ _ _ k) (Reps.single hlen (hd _ _ _ _ _ _ hK))⟩ h2 ?_
  rcases h3 with h3 | h3
  · exact .inl h3.symm
  · right
    rw [h3]
    rfl
end Go.Proofs.Ytaomhedjamnloaa
