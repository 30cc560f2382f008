/- A region that draws its order and writes memory: the same steps, for any relation that lasts; what an operation without a slot has done is told as well. -/
import Derived.Test.YtaomhedjamnloaaRegion2
set_option linter.unusedVariables false
set_option linter.unusedSimpArgs false
namespace Go.Proofs.Ytaomhedjamnloaa
open Go Go.RowKit

def StepB (P : Program) (E : World → World → Prop) (V : Nat → SP E) (l : List Oper) (a0 : Act) (w0 : World) (i : Nat) (o : Oper) : Prop :=
  ∀ (S : Act) (W : World) (K : Act → World → Prop), E w0 W →
    (∀ t, (l.all fun o' => o'.dst != some t) = true → S.tmps.getD t undef = a0.tmps.getD t undef) →
    (∀ j o', l[j]? = some o' → (o.after.any fun e => e.on == j && Region.binds .any e) = true → (V j).p (valOf o' S) W) →
    (∀ v W', E W W' → (V i).p v W' → K (S.put o.dst v) W') →
    (if Region.wanted o (yielded l.toArray S.tmps) then o.wp P S W K (fun _ _ _ => False) else (V i).p undef W)
def StepsB (P : Program) (E : World → World → Prop) (V : Nat → SP E) (l : List Oper) (a0 : Act) (w0 : World) : Nat → List Oper → Prop
  | _, [] => True
  | i, o :: os => StepB P E V l a0 w0 i o ∧ StepsB P E V l a0 w0 (i + 1) os
theorem StepsB.all {P : Program} {E : World → World → Prop} {V : Nat → SP E} {l : List Oper} {a0 : Act} {w0 : World} : ∀ (os : List Oper) (k : Nat), StepsB P E V l a0 w0 k os → ∀ (i : Nat) (o : Oper), os[i]? = some o → StepB P E V l a0 w0 (k + i) o
  | [], _, _, i, o, h => by simp at h
  | o :: os, k, ⟨h0, h1⟩, 0, o', h => by
    simp at h
    subst h
    exact h0
  | o :: os, k, ⟨h0, h1⟩, i + 1, o', h => by
    have := StepsB.all os (k + 1) h1 i o' (by simpa using h)
    rwa [show k + 1 + i = k + (i + 1) by omega] at this
theorem stepB_ok {P : Program} {E : World → World → Prop} (refl : ∀ w, E w w) {V : Nat → SP E} {l : List Oper} {a0 : Act} {w0 : World} {i : Nat} {o : Oper} (hok : regOk a0.tmps.size l = true) (ho : l[i]? = some o)
    (hV : ∀ j (o' : Oper), l[j]? = some o' → o'.dst = none → ∀ v v' w, (V j).p v w → (V j).p v' w) (h : StepB P E V l a0 w0 i o) : StepOk P E V l a0 w0 i o := by
  intro vs W hE hd
  have hput : ∀ t j (o' : Oper), l[j]? = some o' → o'.dst = some t → (putAll l ((List.range l.length).map vs) a0).tmps.getD t undef = vs j := by
    intro t j o' hj hdj
    obtain ⟨hdn, hu⟩ := regOk_dst hok hj hdj
    rw [Array.getD_eq_getD_getElem?, putAll_in l _ a0 t j o' (vs j) hj hdj (by have := (List.getElem?_eq_some_iff.1 hj).1; simp [this]) hdn hu]
    rfl
  have hs := h (putAll l ((List.range l.length).map vs) a0) W (StepK E ((V i).p) o a0.defers W) hE ?_ ?_ ?_
  · split
    · rename_i hw; simpa only [hw, if_true] using hs
    · rename_i hw
      have hs' : (V i).p undef W := by simpa only [hw, if_false, Bool.false_eq_true] using hs
      exact ⟨refl _, hs'⟩
  · intro t ht
    rw [Array.getD_eq_getD_getElem?, Array.getD_eq_getD_getElem?, putAll_out]
    intro j o' hj
    have := List.all_eq_true.1 ht o' (List.mem_of_getElem? hj)
    simpa using this
  · intro j o' hj hb
    rw [Array.any_eq_true'] at hb
    obtain ⟨e, he, hb⟩ := hb
    simp only [Bool.and_eq_true, beq_iff_eq] at hb
    obtain ⟨rfl, hb⟩ := hb
    have := hd e he hb
    cases hq : o'.dst with
    | none => exact hV _ o' hj hq _ _ _ this
    | some t =>
      unfold valOf
      rw [hq]
      simp only
      rw [hput t _ o' hj hq]
      exact this
  · intro v W' hE' hp
    refine ⟨?_, hE', ?_⟩
    · have : (putAll l ((List.range l.length).map vs) a0).defers = a0.defers := putAll_defers _ _ _
      rw [← this]
      cases o.dst <;> rfl
    · cases hq : o.dst with
      | none => exact hV i o ho hq _ _ _ hp
      | some d =>
        rw [← hq, valOf_put hq (by rw [putAll_size]; exact (regOk_dst hok ho hq).1)]
        exact hp
theorem wp_region_stepsB {P : Program} {l : List Oper} {Q : Exit → Act → World → Prop} {a0 : Act} {w0 : World} {id : Nat} (E : World → World → Prop) (refl : ∀ w, E w w) (trans : ∀ a b c, E a b → E b c → E a c) (drew : ∀ w, E w { w with drawn := w.drawn + 1 }) (V : List (SP E)) (hm : P.follows .mixedOrders = true) (hok : regOk a0.tmps.size l = true)
    (hV : ∀ j (o' : Oper), l[j]? = some o' → o'.dst = none → ∀ v v' w, (V.getD j SP.any).p v w → (V.getD j SP.any).p v' w)
    (hst : StepsB P E (fun i => V.getD i SP.any) l a0 w0 0 l)
    (hfin : ∀ (vs : Nat → Value) w', E w0 w' → (∀ i o, l[i]? = some o → (V.getD i SP.any).p (vs i) w') → Q .normal (putAll l ((List.range l.length).map vs) a0) w') :
    (Code.region id l.toArray true).wp P Q a0 w0 :=
  wp_region_ext (fun i => V.getD i SP.any) hm refl trans drew hok (fun i o ho => stepB_ok refl hok ho hV (by have := StepsB.all l 0 hst i o ho; rwa [Nat.zero_add] at this))
    (fun vs w' hE h => hfin vs w' hE fun i o ho => h i (List.getElem?_eq_some_iff.1 ho).1)
theorem none_at {l : List Oper} {n j : Nat} {o' : Oper} (h : (l.zipIdx.all fun (o, i) => o.dst.isSome || i == n) = true) (hj : l[j]? = some o') (hd : o'.dst = none) : j = n := by
  have := List.all_eq_true.1 h (o', j) (by rw [List.mem_zipIdx_iff_getElem?]; exact hj)
  simp only [hd, Option.isSome_none, Bool.false_or, beq_iff_eq] at this
  exact this
theorem none_not {l : List Oper} {j : Nat} {o' : Oper} (h : (l.all fun o => o.dst.isSome) = true) (hj : l[j]? = some o') (hd : o'.dst = none) : False := by
  have := List.all_eq_true.1 h o' (List.mem_of_getElem? hj)
  rw [hd] at this
  cases this
/-- What memory has come to. -/
def SP.mem {E : World → World → Prop} (q : World → Prop) (h : ∀ w w', q w → E w w' → q w') : SP E := ⟨fun _ w => q w, fun a b => h _ _ a b⟩

/-- The call's own blocks have come; block r alone has changed, and just so. -/
structure One (r : Nat) (C : Obj) (w w' : World) : Prop where
  os : w'.os = w.os
  tape : w'.tape = w.tape
  output : w'.output = w.output
  size : w.heap.size ≤ w'.heap.size
  block : ∀ k, k < w.heap.size → k ≠ r → w'.heap[k]? = w.heap[k]?
  one : w'.heap[r]? = w.heap[r]? ∨ w'.heap[r]? = some C
theorem One.refl (r : Nat) (C : Obj) (w : World) : One r C w w := ⟨rfl, rfl, rfl, Nat.le_refl _, fun _ _ _ => rfl, .inl rfl⟩
theorem One.trans (r : Nat) (C : Obj) (a b c : World) (h : One r C a b) (k : One r C b c) : One r C a c :=
  ⟨k.os.trans h.os, k.tape.trans h.tape, k.output.trans h.output, Nat.le_trans h.size k.size, fun i hi hr => (k.block i (Nat.lt_of_lt_of_le hi h.size) hr).trans (h.block i hi hr), by
    rcases k.one with e | e
    · rw [e]; exact h.one
    · exact .inr e⟩
theorem One.drew (r : Nat) (C : Obj) (w : World) : One r C w { w with drawn := w.drawn + 1 } := ⟨rfl, rfl, rfl, Nat.le_refl _, fun _ _ _ => rfl, .inl rfl⟩
theorem One.of {r : Nat} {C : Obj} {w w' : World} (hr : r < w.heap.size) (h : Ext w w') : One r C w w' := ⟨h.os, h.tape, h.output, h.size, fun k hk _ => h.block k hk, .inl (h.block r hr)⟩
theorem One.lt {r : Nat} {C : Obj} {w w' : World} (h : One r C w w') (hr : r < w.heap.size) : r < w'.heap.size := Nat.lt_of_lt_of_le hr h.size
theorem One.stored {r : Nat} {C : Obj} {w w' : World} (h : One r C w w') (hq : w.heap[r]? = some C) : w'.heap[r]? = some C := by
  rcases h.one with e | e
  · rw [e]; exact hq
  · exact e
/-- Block r holds just this. -/
def SP.done (r : Nat) (C : Obj) : SP (One r C) := SP.mem (fun w => w.heap[r]? = some C) fun _ _ hq h => h.stored hq
/-- The whole of a small block written. -/
theorem One.put {r : Nat} {C : Obj} {w w' : World} (h1 : w'.os = w.os) (h2 : w'.tape = w.tape) (h3 : w'.output = w.output) (h4 : w.heap.size ≤ w'.heap.size) (h5 : ∀ k, k ≠ r → w'.heap[k]? = w.heap[k]?) (h6 : w'.heap[r]? = some C) : One r C w w' :=
  ⟨h1, h2, h3, h4, fun k _ hk => h5 k hk, .inr h6⟩
theorem heap_set_eq (w : World) (r off : Nat) (cs : Array Value) (t : TypeId) (fz : Nat × Nat) (u : Value) (h : w.heap[r]? = some (.cells cs t fz)) : (w.setCell ⟨r, off, none⟩ u).heap[r]? = some (.cells (cs.setIfInBounds off u) t fz) := by
  simp only [World.setCell, Array.getElem?_modify, if_true, h, Option.map_some]
  rfl
theorem One.ext {r : Nat} {C : Obj} {w w0 W : World} (h : One r C w0 W) (hE : Ext w w0) (hr : w.heap.size ≤ r) : Ext w W :=
  ⟨h.os.trans hE.os, h.tape.trans hE.tape, h.output.trans hE.output, Nat.le_trans hE.size h.size, fun k hk => (h.block k (Nat.lt_of_lt_of_le hk hE.size) (by omega)).trans (hE.block k hk)⟩
theorem One.cell {r : Nat} {C : Obj} {w0 W : World} (h : One r C w0 W) {a : Addr} {v : Value} (hc : w0.cell? a = some v) (hr : a.block ≠ r) : W.cell? a = some v :=
  (World.cell?_of_block (h.block a.block (World.block_lt_of_cell? w0 a hc) hr)).trans hc
/-- Three cells in line, written one behind the other. -/
theorem put3 (W : World) (r : Nat) (a b c x y z : Value) (t : TypeId) (h : W.heap[r]? = some (.cells #[a, b, c] t (0, 0))) :
    W.cell? ⟨r, 0, none⟩ = some a ∧ W.frozen? ⟨r, 0, none⟩ = false ∧ (W.setCell ⟨r, 0, none⟩ x).cell? ⟨r, 1, none⟩ = some b ∧ (W.setCell ⟨r, 0, none⟩ x).frozen? ⟨r, 1, none⟩ = false ∧
    ((W.setCell ⟨r, 0, none⟩ x).setCell ⟨r, 1, none⟩ y).cell? ⟨r, 2, none⟩ = some c ∧ ((W.setCell ⟨r, 0, none⟩ x).setCell ⟨r, 1, none⟩ y).frozen? ⟨r, 2, none⟩ = false ∧
    (((W.setCell ⟨r, 0, none⟩ x).setCell ⟨r, 1, none⟩ y).setCell ⟨r, 2, none⟩ z).heap[r]? = some (.cells #[x, y, z] t (0, 0)) ∧
    One r (.cells #[x, y, z] t (0, 0)) W (((W.setCell ⟨r, 0, none⟩ x).setCell ⟨r, 1, none⟩ y).setCell ⟨r, 2, none⟩ z) := by
  have h1 := heap_set_eq W r 0 _ t (0, 0) x h
  have h2 := heap_set_eq _ r 1 _ t (0, 0) y h1
  have h3 := heap_set_eq _ r 2 _ t (0, 0) z h2
  have hb := (((Below.refl 0 W).setCell (p := ⟨r, 0, none⟩) (Nat.zero_le _) x).setCell (p := ⟨r, 1, none⟩) (Nat.zero_le _) y).setCell (p := ⟨r, 2, none⟩) (Nat.zero_le _) z
  refine ⟨by simp [World.cell?, h], by simp [World.frozen?, h], by simp [World.cell?, h1], by simp [World.frozen?, h1], by simp [World.cell?, h2], by simp [World.frozen?, h2], h3, One.put hb.os hb.tape hb.output hb.size (fun k hk => ?_) h3⟩
  rw [Below.heap_setCell _ _ _ k hk, Below.heap_setCell _ _ _ k hk, Below.heap_setCell _ _ _ k hk]
end Go.Proofs.Ytaomhedjamnloaa
