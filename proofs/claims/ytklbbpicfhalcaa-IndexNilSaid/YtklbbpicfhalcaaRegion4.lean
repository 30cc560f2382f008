/- append to a row of the call's own inside a region that draws its order. -/
import Derived.Test.YtklbbpicfhalcaaRegion3
import Derived.Test.YtklbbpicfhalcaaBase3
set_option linter.unusedVariables false
set_option linter.unusedSimpArgs false
namespace Go.Proofs.Ytklbbpicfhalcaa
open Go Go.RowKit

/-- What append has left: the longer row, at the old place (whose block then holds C) or at a new one. -/
def Res {α : Type} (d : Kd α) (e : TypeId) (B : Nat) (v : Value) (size0 r : Nat) (C : Obj) (L : List α) (v1 : Value) (w1 : World) : Prop :=
  Own d e w1 B (fun _ => False) v1 L ∧ (v1.ownBlock = some r → w1.heap[r]? = some C) ∧ (v1.ownBlock = v.ownBlock ∨ ∃ k, v1.ownBlock = some k ∧ size0 ≤ k)
theorem Res.st {α : Type} {d : Kd α} {e : TypeId} {B : Nat} {v : Value} {size0 r : Nat} {C : Obj} {L : List α} {v1 : Value} {w w' : World} (h : Res d e B v size0 r C L v1 w) (hE : One r C w w') : Res d e B v size0 r C L v1 w' := by
  obtain ⟨h1, h2, h3⟩ := h
  refine ⟨h1.move (fun k hk => ?_) (fun _ h => h.elim), fun hr => hE.stored (h2 hr), h3⟩
  by_cases hkr : k = r
  · subst hkr
    rw [hE.stored (h2 hk), h2 hk]
  · exact hE.block k (h1.at hk).2 hkr
def SP.app {α : Type} (d : Kd α) (e : TypeId) (B : Nat) (v : Value) (size0 r : Nat) (C : Obj) (L : List α) : SP (One r C) := ⟨fun v1 w1 => Res d e B v size0 r C L v1 w1, fun h hE => h.st hE⟩
/-- A box of some cells in a block of its own. -/
def SP.boxed (r : Nat) (C : Obj) (us : List Value) (e : TypeId) (size0 : Nat) : SP (One r C) := ⟨fun v w => ∃ b, v = .slice (some ⟨b, 0, none⟩) 1 1 ∧ size0 ≤ b ∧ r < size0 ∧ w.heap[b]? = some (.cells us.toArray e (0, 0)), fun {v w w'} h hE => by
  obtain ⟨b, h1, h2, h3, h4⟩ := h
  refine ⟨b, h1, h2, h3, ?_⟩
  have hlt : b < w.heap.size := (Array.getElem?_eq_some_iff.1 h4).1
  rw [hE.block b hlt (by omega)]
  exact h4⟩
theorem boxed_cells {w : World} {b : Nat} {us : List Value} {e : TypeId} (h : w.heap[b]? = some (.cells us.toArray e (0, 0))) : ∀ j u, us[j]? = some u → w.cell? ((⟨b, 0, none⟩ : Addr).add j) = some u := by
  intro j u hj
  have ea : ((⟨b, 0, none⟩ : Addr).add j) = ⟨b, j, none⟩ := add_zero_block b j
  rw [ea]
  unfold World.cell?
  rw [h]
  simpa using hj
theorem wp_app {P : Program} {o : Oper} {a : Act} {K : Act → World → Prop} {Q : Exit → Act → World → Prop} {W w1 : World} {t : TypeId} {s x : Operand} {v vx v1 : Value} (ho : o.op = .call { callee := .builtin .append, args := #[s, x], argTypes := #[t, t] })
    (hs : a.eval s = v) (hx : a.eval x = vx) (hr : (Builtin.append_ #[t, t] o.type #[v, vx]).run P W = .ok v1 w1) (h : K (a.put o.dst v1) w1) : o.wp P a W K Q := by
  unfold Oper.wp execOp
  simp only [ho, resolve, invoke, builtin, Sem.run_bind, Sem.run_pure, Result.andThen_ok, List.map_toArray, List.map_cons, List.map_nil, hs, hx, hr]
  exact h

theorem take_mid {β : Type} (l us : List β) (n : Nat) (h : n ≤ l.length) : (l.take n ++ us ++ l.drop (n + us.length)).take n = l.take n := by
  rw [List.append_assoc]
  exact List.take_left' (by rw [List.length_take]; omega)
theorem drop_mid {β : Type} (l us : List β) (n : Nat) (h : n ≤ l.length) : (l.take n ++ us ++ l.drop (n + us.length)).drop (n + us.length) = l.drop (n + us.length) :=
  List.drop_left' (by rw [List.length_append, List.length_take]; omega)
theorem fresh_res {α : Type} (d : Kd α) (hd : Flat d) (e : TypeId) {w0 : World} {B g : Nat} {F : Nat → Prop} {v : Value} {xs : List α} {cs us : List Value} {z : Value} (y : α) (hz2 : z.cells.size = d.sz) (hcl : cs.length = xs.length * d.sz) (hr : Reps (d.K w0 F) d.sz xs cs) (hus : us.length = d.sz) (hK : ∀ w F, d.K w F y us) (hg : g < w0.heap.size) (hm : xs.length + 1 ≤ maxLen) (hB : B ≤ w0.heap.size) (W : World) (old : Nat) (hE : One g (w0.heap[g]'hg) w0 W) (hold : old < xs.length + 1) :
    Res d e B v w0.heap.size g (w0.heap[g]'hg) (xs ++ [y]) (.slice (some ⟨W.heap.size, 0, none⟩) (xs.length + 1) (grownCap W (xs.length + 1) old e))
      (W.drew.alloc (.cells (cs.toArray ++ us.toArray ++ Builtin.zeroCells z.cells (grownCap W (xs.length + 1) old e - (xs.length + 1))) e)) ∧
    One g (w0.heap[g]'hg) W (W.drew.alloc (.cells (cs.toArray ++ us.toArray ++ Builtin.zeroCells z.cells (grownCap W (xs.length + 1) old e - (xs.length + 1))) e)) := by
  have hge := grownCap_ge W (xs.length + 1) old e
  have hcm := grownCap_le_maxLen W (xs.length + 1) old e hm
  generalize grownCap W (xs.length + 1) old e = cap at *
  have hsW := hE.size
  refine ⟨⟨⟨cs ++ us, ⟨?_, .inr ⟨W.heap.size, cap, _, by simp, by omega, heap_alloc_new W.drew _, by simpa using hge, hcm, ?_, ?_⟩⟩, ?_⟩, fun h => ?_, .inr ⟨W.heap.size, rfl, hsW⟩⟩, One.of (by omega) ((Ext.drew W).trans _ _ _ (Ext.alloc _ _))⟩
  · rw [List.length_append, List.length_append, hcl, hus, List.length_singleton, Nat.succ_mul]
  · simp only [Array.size_append, List.size_toArray, size_zeroCells, hz2, hcl, hus, ← Nat.succ_mul, ← Nat.add_mul]
    congr 1
    omega
  · have e3 : (cs ++ us).length = (xs ++ [y]).length * d.sz := by rw [List.length_append, List.length_append, hcl, hus, List.length_singleton, Nat.succ_mul]
    simp only [Array.toList_append]
    rw [← e3]
    exact List.take_left
  · exact Reps.append (hr.imp fun _ _ k => hd _ _ _ _ _ _ k) (Reps.single hus (hK _ _))
  · injection h with h
    have : W.heap.size = g := h
    omega
/-- A plan for one element behind a row: which block may change, and to what. -/
theorem plan_own {P : Program} {α : Type} (d : Kd α) (hd : Flat d) (t e by_ : Nat) (ht : P.underlying t = some (.slice e)) (hi : (P.info? e).map (fun i => (i.zero.map (fun z => z.cells.size), i.size, i.bytes)) = some (some d.sz, d.sz, by_))
    {w0 : World} {B g : Nat} {F : Nat → Prop} {v : Value} {xs : List α} (hown : Own d e w0 B F v xs) (y : α) (us : List Value) (hK : ∀ w F, d.K w F y us) (hg : g < w0.heap.size) (hl : (xs.length + 1) * by_ ≤ 140737488355328) (hm : xs.length + 1 ≤ maxLen) (hB : B ≤ w0.heap.size) :
    ∃ r C, r < w0.heap.size ∧ (∀ W, One r C w0 W → w0.grownBy W v.ownBlock) ∧
      ∀ W ty b, One r C w0 W → w0.heap.size ≤ b → W.heap[b]? = some (.cells us.toArray e (0, 0)) → ∃ v1 W1, (Builtin.append_ #[t, t] ty #[v, .slice (some ⟨b, 0, none⟩) 1 1]).run P W = .ok v1 W1 ∧ One r C W W1 ∧ Res d e B v w0.heap.size r C (xs ++ [y]) v1 W1 := by
  obtain ⟨i, hi1, hi2⟩ := Option.map_eq_some_iff.1 hi
  simp only [Prod.mk.injEq] at hi2
  obtain ⟨hz, hsz, hby⟩ := hi2
  obtain ⟨z, hz1, hz2⟩ := Option.map_eq_some_iff.1 hz
  have hus : us.length = d.sz := d.len (hK w0 F)
  have hone : ∀ u ∈ us, u.oneCell' = true := d.one (hK w0 F)
  by_cases hroom : ∃ g0 cap, v = .slice (some ⟨g0, 0, none⟩) xs.length cap ∧ xs.length + 1 ≤ cap
  · obtain ⟨g0, cap, rfl, hcap⟩ := hroom
    obtain ⟨cs, ⟨hcl, ho⟩, hr⟩ := hown
    rcases ho with ⟨e0, _⟩ | ⟨g1, cap1, cur, e1, hBg, hh, hn, hmx, hcs, htk⟩
    · cases e0
    · cases e1
      have hfit : xs.length * d.sz + us.length ≤ cur.size := by
        rw [hus, hcs, ← Nat.succ_mul]
        exact Nat.mul_le_mul_right _ hcap
      refine ⟨g0, .cells (cur.toList.take (xs.length * d.sz) ++ us ++ cur.toList.drop (xs.length * d.sz + us.length)).toArray e (0, 0), (Array.getElem?_eq_some_iff.1 hh).1, fun W hE => ⟨hE.os, hE.tape, hE.output, hE.size, fun k hk hne => hE.block k hk (fun e => hne (by rw [e]; rfl))⟩, ?_⟩
      intro W ty b hE hb hbox
      have hle : xs.length * d.sz ≤ cur.size := Nat.le_trans (Nat.le_add_right _ _) hfit
      -- the row as it stands there
      obtain ⟨cur', hh', htk', hsz'⟩ : ∃ cur', W.heap[g0]? = some (.cells cur' e (0, 0)) ∧ cur'.toList.take (xs.length * d.sz) = cs ∧ cur'.size = cur.size ∧ cur'.toList.drop (xs.length * d.sz + us.length) = cur.toList.drop (xs.length * d.sz + us.length) := by
        rcases hE.one with q | q
        · exact ⟨cur, q.trans hh, htk, rfl, rfl⟩
        · refine ⟨_, q, ?_, ?_, ?_⟩
          · rw [List.toList_toArray, take_mid cur.toList us (xs.length * d.sz) (by rw [Array.length_toList]; exact hle), htk]
          · simp only [List.size_toArray, List.length_append, List.length_take, List.length_drop, Array.length_toList]
            omega
          · rw [List.toList_toArray, drop_mid cur.toList us (xs.length * d.sz) (by rw [Array.length_toList]; exact hle)]
      obtain ⟨hsz1, hdr⟩ := hsz'
      have hrun := run_append_room (P := P) W t ty e i ht hi1 g0 xs.length cap cur' hh' ⟨b, 0, none⟩ 1 1 us (by rw [hus, hsz]; omega) (boxed_cells hbox) hone hcap (by rw [hsz, hsz1]; exact hfit)
      rw [hsz, htk', hdr] at hrun
      rw [htk]
      have hC := setRow_heap W g0 cur' (cs ++ us ++ cur.toList.drop (xs.length * d.sz + us.length)).toArray e (0, 0) hh'
      refine ⟨_, _, hrun, ⟨rfl, rfl, rfl, by simp [World.setRow], fun k _ hk => setRow_other W g0 k _ hk, .inr hC⟩, ⟨cs ++ us, ⟨?_, .inr ⟨g0, cap, _, by simp, hBg, hC, by simpa using hcap, hmx, ?_, ?_⟩⟩, ?_⟩, fun _ => hC, .inl rfl⟩
      · rw [List.length_append, List.length_append, hcl, hus, List.length_singleton, Nat.succ_mul]
      · simp only [List.size_toArray, List.length_append, List.length_drop, Array.length_toList, hcl]
        omega
      · have e3 : (cs ++ us).length = (xs ++ [y]).length * d.sz := by rw [List.length_append, List.length_append, hcl, hus, List.length_singleton, Nat.succ_mul]
        rw [List.toList_toArray, ← e3]
        exact List.take_left
      · exact Reps.append (hr.imp fun _ _ k => hd _ _ _ _ _ _ k) (Reps.single hus (hK _ _))
  · obtain ⟨cs, ho, hr⟩ := hown
    have fresh := fun (W : World) (old : Nat) (hE : One g (w0.heap[g]'hg) w0 W) hold => fresh_res d hd e (B := B) (v := v) y hz2 ho.1 hr hus hK hg hm hB W old hE hold
    refine ⟨g, w0.heap[g]'hg, hg, fun W hE => ⟨hE.os, hE.tape, hE.output, hE.size, fun k hk _ => ?_⟩, ?_⟩
    · by_cases hkg : k = g
      · subst hkg
        rcases hE.one with q | q
        · exact q
        · rw [q]; exact (Array.getElem?_eq_getElem hk).symm
      · exact hE.block k hk hkg
    · intro W ty b hE hb hbox
      have hWg : W.heap[g]? = w0.heap[g]? := by
        rcases hE.one with q | q
        · exact q
        · rw [q]; exact (Array.getElem?_eq_getElem hg).symm
      have hsame : ∀ k, k < w0.heap.size → W.heap[k]? = w0.heap[k]? := fun k hk => by
        by_cases hkg : k = g
        · rw [hkg]; exact hWg
        · exact hE.block k hk hkg
      rcases ho.2 with ⟨rfl, h0⟩ | ⟨g1, cap1, cur, rfl, hBg, hh, hn, hmx, hcs, htk⟩
      · have hcs0 : cs = [] := List.eq_nil_of_length_eq_zero (by rw [ho.1, h0]; omega)
        have hrun := run_append_nil (P := P) W t ty e i z ht hi1 hz1 ⟨b, 0, none⟩ 1 1 us (by rw [hus, hsz]; omega) (boxed_cells hbox) (by omega) (by omega) (by rw [hby]; rw [h0] at hl; omega)
        have hf := fresh W 0 hE (by omega)
        rw [h0] at hf
        rw [hcs0] at hf
        simp only [List.length_nil, Nat.zero_add] at hf
        have e0 : (([] : List Value).toArray ++ us.toArray ++ Builtin.zeroCells z.cells (grownCap W 1 0 e - 1)) = (us.toArray ++ Builtin.zeroCells z.cells (grownCap W 1 0 e - 1)) := by simp
        rw [e0] at hf
        exact ⟨_, _, hrun, hf.2, hf.1⟩
      · have hnc : cap1 < xs.length + 1 := by
          rcases Nat.lt_or_ge cap1 (xs.length + 1) with h | h
          · exact h
          · exact absurd ⟨g1, cap1, rfl, h⟩ hroom
        have holds : ∀ j u, cs[j]? = some u → W.cell? ((⟨g1, 0, none⟩ : Addr).add j) = some u := by
          intro j u hj
          have h1 := ho.cells (g := g1) rfl j u hj
          rw [← h1]
          exact World.cell?_of_block (by rw [add_block]; exact hsame g1 ((Array.getElem?_eq_some_iff.1 hh).1))
        have hnx := nextslicecap_le hnc
        have hfit2 : Builtin.nextslicecap (xs.length + 1) cap1 * i.bytes ≤ 281474976710656 := by
          rw [hby]
          have := Nat.mul_le_mul_right by_ hnx
          rw [Nat.mul_assoc] at this
          omega
        have hrun := run_append_grow (P := P) W t ty e i z ht hi1 hz1 ⟨g1, 0, none⟩ xs.length cap1 cs (by rw [ho.1, hsz]) holds ⟨b, 0, none⟩ 1 1 us (by rw [hus, hsz]; omega) (boxed_cells hbox) hnc (by simp only [maxLen] at hm; omega) hfit2
        have hf := fresh W cap1 hE hnc
        exact ⟨_, _, hrun, hf.2, hf.1⟩
end Go.Proofs.Ytklbbpicfhalcaa
