/- Stores of whole rows and of cells: the world behind them by what it holds. -/
import Derived.Test.YtaomhedjamnloaaBase3
import Derived.Laws.Rows
import Derived.Laws.Tables
set_option linter.unusedVariables false
set_option linter.unusedSimpArgs false
namespace Go.Proofs.Ytaomhedjamnloaa
open Go Go.RowKit

structure PutAt (g : Nat) (o : Obj) (w w' : World) : Prop where
  obj : w'.heap[g]? = some o
  os : w'.os = w.os
  tape : w'.tape = w.tape
  output : w'.output = w.output
  size : w'.heap.size = w.heap.size
  block : ∀ k, k ≠ g → w'.heap[k]? = w.heap[k]?
theorem PutAt.below {g : Nat} {o : Obj} {w0 w w' : World} {B : Nat} (h : PutAt g o w w') (hb : Below B w0 w) (hg : B ≤ g) : Below B w0 w' :=
  ⟨h.os.trans hb.os, h.tape.trans hb.tape, h.output.trans hb.output, by rw [h.size]; exact hb.size, fun k hk => (h.block k (by omega)).trans (hb.block k hk)⟩
theorem PutAt.row {g : Nat} {o : Obj} {w w' : World} {α : Type} {d : Kd α} {F : Nat → Prop} {A : Option Addr} {xs : List α} (h : PutAt g o w w') (hr : Row d w F A xs) (hF : ∀ k, F k → k ≠ g) : Row d w' F A xs := hr.move fun k hk => h.block k (hF k hk)
theorem PutAt.own {g : Nat} {o : Obj} {w w' : World} {α : Type} {d : Kd α} {e : TypeId} {B : Nat} {F : Nat → Prop} {v : Value} {xs : List α} (h : PutAt g o w w') (ho : Own d e w B F v xs) (hv : ∀ k, v.ownBlock = some k → k ≠ g) (hF : ∀ k, F k → k ≠ g) : Own d e w' B F v xs :=
  ho.move (fun k hk => h.block k (hv k hk)) fun k hk => h.block k (hF k hk)
theorem putAt_set {w : World} {g : Nat} {cs : Array Value} {t : TypeId} (hg : w.heap[g]? = some (.cells cs t (0, 0))) (i : Nat) (v : Value) : PutAt g (.cells (cs.setIfInBounds i v) t (0, 0)) w (w.setCell ⟨g, i, none⟩ v) := by
  rw [setCell_eq_setRow w g i cs t (0, 0) v hg]
  exact ⟨setRow_heap _ _ _ _ _ _ hg, rfl, rfl, rfl, setRow_size _ _ _, fun k hk => setRow_other _ _ _ _ hk⟩
section
variable {P : Program} {ops : Array Oper} {rest : List Oper} {o : Oper} {a : Act} {Q : Exit → Act → World → Prop}
theorem put_row {w : World} (hgd : o.guard = none) (ty : TypeId) (x y : Operand) (ho : o.op = .store ty x y)
    (g : Nat) (cells : Array Value) (hx : a.eval x = .pointer (some ⟨g, 0, none⟩)) (hy : a.eval y = .agg cells)
    (t : TypeId) (old : Array Value) (hg : w.heap[g]? = some (.cells old t (0, 0))) (hi : (P.info? ty).map (·.size) = some cells.size)
    (hold : old.size = cells.size) (h1 : cells.all (·.oneCell') = true)
    (h : ∀ w', PutAt g (.cells cells t (0, 0)) w w' → wpList P ops Q rest (a.put o.dst undef) w') : wpList P ops Q (o :: rest) a w :=
  wpList_store_row hgd ty x y ho g cells hx hy t old hg hi hold h1 (h _ ⟨setRow_heap _ _ _ _ _ _ hg, rfl, rfl, rfl, setRow_size _ _ _, fun k hk => setRow_other _ _ _ _ hk⟩)
/-- One cell of a block. -/
theorem put_cell {w : World} (hgd : o.guard = none) (ty : TypeId) (x y : Operand) (ho : o.op = .store ty x y)
    (g i : Nat) (v : Value) (hx : a.eval x = .pointer (some ⟨g, i, none⟩)) (hy : a.eval y = v) (h1v : v.oneCell' = true)
    (t : TypeId) (old : Array Value) (hg : w.heap[g]? = some (.cells old t (0, 0))) (hi : (P.info? ty).map (·.size) = some 1) (hold : i < old.size)
    (h : ∀ w', PutAt g (.cells (old.setIfInBounds i v) t (0, 0)) w w' → wpList P ops Q rest (a.put o.dst undef) w') : wpList P ops Q (o :: rest) a w := by
  have hc : w.cell? ⟨g, i, none⟩ = some old[i] := by simp [World.cell?, hg, hold]
  have hf : w.frozen? ⟨g, i, none⟩ = false := by simp [World.frozen?, hg]
  obtain ⟨inf, hi1, hi2⟩ := Option.map_eq_some_iff.1 hi
  refine wpList_plain hgd fun K hK => ?_
  unfold Oper.wp execOp
  have hrun : (Instr.storeAt ty (.pointer (some ⟨g, i, none⟩)) v).run P w = .ok () (w.setCell ⟨g, i, none⟩ v) := by
    have hadd : ((⟨g, i, none⟩ : Addr).add 0) = ⟨g, i, none⟩ := rfl
    have hv : v.cells = #[v] := by cases v <;> first | rfl | cases h1v
    simp [Instr.storeAt, Instr.sureAddr, storeVar, sizeOf, typeInfo, hi1, hi2, hv, storeCells, hadd, run_store _ _ _ _ _ h1v, stored, hc, hf]
  simp only [ho, hx, hy, Sem.run_bind, hrun, Result.andThen_ok]
  exact hK _ _ (h _ (putAt_set hg i v))
end
theorem results_row2 {P : Program} {fn : Func} {p u : Tmp} {ty : TypeId} (h : fn.results = #[.cell p ty, .tmp u]) (tmps : Array Value) (w : World) (g : Nat) (t : TypeId) (cs : Array Value) (fr : Nat × Nat) (d : TypeDesc)
    (hp : tmps.getD p undef = .pointer (some ⟨g, 0, none⟩)) (hg : w.heap[g]? = some (.cells cs t fr))
    (hu : P.underlying ty = some d) (hd : (match d with | .struct _ | .array _ _ => true | _ => false) = true) (hi : (P.info? ty).map (·.size) = some cs.size) :
    (results fn tmps).run P w = .ok (.tuple #[.agg cs, tmps.getD u undef]) w := by
  have hp' : tmps[p]?.getD undef = .pointer (some ⟨g, 0, none⟩) := by simpa using hp
  simp [results, h, hp', asAddr, run_loadVar_row w g t ty cs fr d hg hu hd hi]
theorem flat_pair {α β : Type} {a : Kd α} {b : Kd β} (ha : Flat a) (hb : Flat b) : Flat (pair a b) := by
  rintro w F w' F' x cs ⟨c0, c1, e, h0, h1⟩
  exact ⟨c0, c1, e, ha _ _ _ _ _ _ h0, hb _ _ _ _ _ _ h1⟩
theorem cell_of {W : World} {r : Nat} {cs : Array Value} {t : TypeId} {fz : Nat × Nat} (h : W.heap[r]? = some (.cells cs t fz)) (k : Nat) : W.cell? ⟨r, k, none⟩ = cs[k]? := by simp [World.cell?, h]
theorem frozen_of {W : World} {r : Nat} {cs : Array Value} {t : TypeId} (h : W.heap[r]? = some (.cells cs t (0, 0))) (k : Nat) : W.frozen? ⟨r, k, none⟩ = false := by simp [World.frozen?, h]
theorem one_new (w : World) (o1 : Obj) : (w.alloc o1).heap[w.heap.size]? = some o1 ∧ Below w.heap.size w (w.alloc o1) ∧ (w.alloc o1).heap.size = w.heap.size + 1 :=
  ⟨Go.heap_alloc_new _ _, (Below.refl _ w).alloc (Nat.le_refl _) _, by simp⟩
theorem two_new (w : World) (o1 o2 : Obj) : ((w.alloc o1).alloc o2).heap[w.heap.size]? = some o1 ∧ ((w.alloc o1).alloc o2).heap[w.heap.size + 1]? = some o2 ∧ Below w.heap.size w ((w.alloc o1).alloc o2) ∧ ((w.alloc o1).alloc o2).heap.size = w.heap.size + 2 := by
  obtain ⟨h1, h2, h3⟩ := one_new w o1
  obtain ⟨k1, k2, k3⟩ := one_new (w.alloc o1) o2
  rw [h3] at k1
  exact ⟨(k2.block _ (by omega)).trans h1, k1, Below.trans h2 (Below.mono k2 (by omega)), by omega⟩
theorem three_new (w : World) (o1 o2 o3 : Obj) : (((w.alloc o1).alloc o2).alloc o3).heap[w.heap.size]? = some o1 ∧ (((w.alloc o1).alloc o2).alloc o3).heap[w.heap.size + 1]? = some o2 ∧ (((w.alloc o1).alloc o2).alloc o3).heap[w.heap.size + 2]? = some o3 ∧ Below w.heap.size w (((w.alloc o1).alloc o2).alloc o3) ∧ (((w.alloc o1).alloc o2).alloc o3).heap.size = w.heap.size + 3 := by
  obtain ⟨h1, h2, h3, h4⟩ := two_new w o1 o2
  obtain ⟨k1, k2, k3⟩ := one_new ((w.alloc o1).alloc o2) o3
  rw [h4] at k1
  exact ⟨(k2.block _ (by omega)).trans h1, (k2.block _ (by omega)).trans h2, k1, Below.trans h3 (Below.mono k2 (by omega)), by omega⟩
theorem grown_old {W w4 : World} {o : Obj} {row : Option Nat} (hg : (W.alloc o).grownBy w4 row) {k : Nat} (hk : k < W.heap.size) (hr : row ≠ some k) : w4.heap[k]? = W.heap[k]? :=
  (hg.block k (by simp; omega) (fun e => hr e.symm)).trans (((Below.refl W.heap.size W).alloc (Nat.le_refl _) o).block k hk)
theorem boxedN {w : World} {b : Nat} {us : Array Value} {e : TypeId} {fz : Nat × Nat} (h : w.heap[b]? = some (.cells us e fz)) : ∀ j u, us.toList[j]? = some u → w.cell? ((⟨b, 0, none⟩ : Addr).add j) = some u := by
  intro j u hj
  rw [add_zero_block, cell_of h]
  simpa using hj
end Go.Proofs.Ytaomhedjamnloaa
