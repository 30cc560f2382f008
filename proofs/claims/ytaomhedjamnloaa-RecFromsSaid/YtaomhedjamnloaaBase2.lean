/- More on rows: one element appended; what a slice's value says. -/
import Derived.Test.YtaomhedjamnloaaBase
import Derived.Laws.BytesArg
import Derived.Laws.IdiomStrings
import Derived.Lib.SlBytesConst
set_option linter.unusedVariables false
set_option linter.unusedSimpArgs false
namespace Go.Proofs.Ytaomhedjamnloaa
open Go Go.RowKit
section
variable {P : Program} {ops : Array Oper} {rest : List Oper} {o : Oper} {a : Act} {Q : Exit → Act → World → Prop}
/-- append(x, y) of one element of one cell that lies in a block of its own; what lies inside lies in blocks of F, none of them the row's. -/
theorem app_one1 {α : Type} (d : Kd α) (hd1 : d.sz = 1) {w : World} (B : Nat) (F : Nat → Prop) (hgd : o.guard = none) (s x : Operand) (t e by_ : Nat)
    (ho : o.op = .call { callee := .builtin .append, args := #[s, x], argTypes := #[t, t] })
    (ht : P.underlying t = some (.slice e)) (hi : (P.info? e).map (fun i => (i.zero.map (fun z => z.cells.size), i.size, i.bytes)) = some (some d.sz, d.sz, by_))
    (v : Value) (xs : List α) (y : α) (b : Nat) (u : Value) (hs : a.eval s = v) (hx : a.eval x = .slice (some ⟨b, 0, none⟩) 1 1) (hown : Own d e w B F v xs)
    (hc : w.cell? ⟨b, 0, none⟩ = some u) (hK : d.K w F y [u]) (hF : ∀ k, F k → k < w.heap.size → some k ≠ v.ownBlock)
    (hl : (xs.length + 1) * by_ ≤ 140737488355328) (hm : xs.length + 1 ≤ maxLen) (hB : B ≤ w.heap.size)
    (h : ∀ v1 w1, Own d e w1 B F v1 (xs ++ [y]) → w.grownBy w1 v.ownBlock → (v1.ownBlock = v.ownBlock ∨ v1.ownBlock = some w.heap.size) → wpList P ops Q rest (a.put o.dst v1) w1) :
    wpList P ops Q (o :: rest) a w := by
  refine app_core d B F hgd s x t e by_ ho ht hi v _ xs [y] hs hx hown (some ⟨b, 0, none⟩) 1 [u] rfl (.inr ⟨_, rfl, trivial, fun j u' hj => ?_⟩) (Reps.single (by rw [hd1]; rfl) hK) hl hm hB hF h
  match j, hj with
  | 0, hj => simp at hj; subst hj; exact hc
/-- .. of a kind whose cells hold all there is. -/
theorem app_onef {α : Type} (d : Kd α) (hd : Flat d) {w : World} (B : Nat) (hgd : o.guard = none) (s x : Operand) (t e by_ : Nat)
    (ho : o.op = .call { callee := .builtin .append, args := #[s, x], argTypes := #[t, t] })
    (ht : P.underlying t = some (.slice e)) (hi : (P.info? e).map (fun i => (i.zero.map (fun z => z.cells.size), i.size, i.bytes)) = some (some d.sz, d.sz, by_))
    (v : Value) (xs : List α) (y : α) (b : Nat) (us : List Value) (F : Nat → Prop) (hs : a.eval s = v) (hx : a.eval x = .slice (some ⟨b, 0, none⟩) 1 1) (hown : Own d e w B F v xs)
    (hc : ∀ j u, us[j]? = some u → w.cell? ((⟨b, 0, none⟩ : Addr).add j) = some u) (hK : d.K w F y us)
    (hl : (xs.length + 1) * by_ ≤ 140737488355328) (hm : xs.length + 1 ≤ maxLen) (hB : B ≤ w.heap.size)
    (h : ∀ v1 w1, Own d e w1 B (fun _ => False) v1 (xs ++ [y]) → w.grownBy w1 v.ownBlock → (v1.ownBlock = v.ownBlock ∨ v1.ownBlock = some w.heap.size) → wpList P ops Q rest (a.put o.dst v1) w1) :
    wpList P ops Q (o :: rest) a w :=
  app_core d B (fun _ => False) hgd s x t e by_ ho ht hi v _ xs [y] hs hx (hown.flat hd) (some ⟨b, 0, none⟩) 1 us rfl (.inr ⟨_, rfl, trivial, hc⟩) (Reps.single (d.len hK) (hd _ _ _ _ _ _ hK)) hl hm hB (fun _ h => h.elim) h
end
/-- Cells that were just laid. -/
theorem cells_new (w : World) (cs : List Value) (e : TypeId) (fz : Nat × Nat) : Cells (w.alloc (.cells cs.toArray e fz)) (fun k => k < (w.alloc (.cells cs.toArray e fz)).heap.size) (some ⟨w.heap.size, 0, none⟩) cs := by
  refine .inr ⟨_, rfl, by simp, fun j u hj => ?_⟩
  have hh : (w.alloc (.cells cs.toArray e fz)).heap[w.heap.size]? = some (.cells cs.toArray e fz) := heap_alloc_new w _
  have ea : ((⟨w.heap.size, 0, none⟩ : Addr).add j) = ⟨w.heap.size, j, none⟩ := by unfold Addr.add; split <;> simp_all
  rw [ea]
  unfold World.cell?
  rw [hh]
  simpa using hj
theorem row_kb_new (w : World) (l : List UInt8) (e : TypeId) (fz : Nat × Nat) : Row kb (w.alloc (.cells (u8s l).toArray e fz)) (fun k => k < (w.alloc (.cells (u8s l).toArray e fz)).heap.size) (some ⟨w.heap.size, 0, none⟩) l :=
  ⟨u8s l, cells_new w _ e fz, (Reps.scalar.2 rfl).imp fun _ _ hc => ⟨hc, trivial⟩⟩
/-- A row of one slice that was just laid. -/
theorem row_one_new {α : Type} (d : Kd α) (w : World) (A : Option Addr) (c : Nat) (xs : List α) (e : TypeId) (fz : Nat × Nat) (h1 : xs.length ≤ c) (hm : c ≤ maxLen) (hr : Row d w (fun k => k < w.heap.size) A xs) :
    Row (slk d) (w.alloc (.cells #[.slice A xs.length c] e fz)) (fun k => k < (w.alloc (.cells #[.slice A xs.length c] e fz)).heap.size) (some ⟨w.heap.size, 0, none⟩) [xs] :=
  ⟨[.slice A xs.length c], cells_new w _ e fz, Reps.single rfl ⟨_, rfl, A, c, rfl, h1, hm, (hr.alloc _).mono fun k hk => by simp; omega⟩⟩
theorem Row.lt {α : Type} {d : Kd α} {w : World} {F : Nat → Prop} {A : Option Addr} {xs : List α} (h : Row d w F A xs) : Row d w (fun k => k < w.heap.size) A xs := h.bound.mono fun _ hk => hk.2
theorem Sl.lt {α : Type} {d : Kd α} {w : World} {F : Nat → Prop} {v : Value} {xs : List α} (h : Sl d w F v xs) : Sl d w (fun k => k < w.heap.size) v xs := h.bound.mono fun _ hk => hk.2
theorem Own.lt {α : Type} {d : Kd α} {e : TypeId} {w : World} {B : Nat} {F : Nat → Prop} {v : Value} {xs : List α} (h : Own d e w B F v xs) : Sl d w (fun k => k < w.heap.size) v xs := h.sl.lt
/-- string(b) -/
theorem conv_str {P : Program} {w : World} {F : Nat → Prop} {A : Option Addr} {l : List UInt8} (h : Row kb w F A l) (src dst e : TypeId) (c : Nat) (hs : P.underlying src = some (.slice e)) (he : P.underlying e = some (.int .u8)) (hd : P.underlying dst = some .string) :
    (convert src dst (.slice A l.length c)).run P w = .ok (.string ⟨l.toArray⟩) w := by
  cases A with
  | none =>
    have := h.none
    subst this
    rw [run_convert_bytes_nil w src e hs he _ c dst hd]
    rfl
  | some ad =>
    refine run_convert_bytes_back w src dst e ad c l hs he hd fun j hj => ?_
    obtain ⟨_, e1, hc⟩ := h.u8_at j hj
    cases e1
    exact hc
end Go.Proofs.Ytaomhedjamnloaa
