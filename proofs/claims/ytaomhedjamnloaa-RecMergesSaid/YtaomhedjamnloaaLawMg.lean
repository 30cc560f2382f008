/- RecMerges: the walk of the law. -/
import Derived.Test.YtaomhedjamnloaaRecK
import Derived.Test.YtaomhedjamnloaaRecMr2
import Derived.Test.YtaomhedjamnloaaRecCut
import Derived.Test.YtaomhedjamnloaaRegion8
set_option linter.unusedVariables false
set_option linter.unusedSimpArgs false
namespace Go.Proofs.Ytaomhedjamnloaa
open Go Go.RowKit

section
variable {P : Program} {ops : Array Oper} {rest : List Oper} {o : Oper} {a : Act} {Q : Exit → Act → World → Prop}
/-- append(x, y) of one element of any size: what lies inside the elements lies in blocks from B on, not in the row. -/
theorem app_nest {α : Type} (d : Kd α) {w : World} (B : Nat) (hgd : o.guard = none) (s x : Operand) (t e by_ : Nat)
    (ho : o.op = .call { callee := .builtin .append, args := #[s, x], argTypes := #[t, t] })
    (ht : P.underlying t = some (.slice e)) (hi : (P.info? e).map (fun i => (i.zero.map (fun z => z.cells.size), i.size, i.bytes)) = some (some d.sz, d.sz, by_))
    (v : Value) (xs : List α) (y : α) (b : Nat) (us : List Value) (hs : a.eval s = v) (hx : a.eval x = .slice (some ⟨b, 0, none⟩) 1 1) (hown : Own d e w B (fr B v) v xs)
    (hc : ∀ j u, us[j]? = some u → w.cell? ((⟨b, 0, none⟩ : Addr).add j) = some u) (hK : d.K w (fr B v) y us)
    (hl : (xs.length + 1) * by_ ≤ 140737488355328) (hm : xs.length + 1 ≤ maxLen) (hB : B ≤ w.heap.size)
    (h : ∀ v1 w1, Own d e w1 B (fr B v1) v1 (xs ++ [y]) → w.grownBy w1 v.ownBlock → (v1.ownBlock = v.ownBlock ∨ v1.ownBlock = some w.heap.size) → wpList P ops Q rest (a.put o.dst v1) w1) :
    wpList P ops Q (o :: rest) a w := by
  refine app_core d B (fun k => fr B v k ∧ k < w.heap.size) hgd s x t e by_ ho ht hi v _ xs [y] hs hx hown.bound (some ⟨b, 0, none⟩) 1 us rfl (.inr ⟨_, rfl, trivial, hc⟩) (Reps.single (d.len hK) (d.bound hK)) hl hm hB (fun k hk _ => hk.1.2) ?_
  intro v1 w1 h1 h2 h3
  refine h v1 w1 (h1.mono fun k hk => ⟨hk.1.1, ?_⟩) h2 h3
  rcases h3 with h3 | h3
  · rw [h3]; exact hk.1.2
  · rw [h3]; intro he; injection he with he; omega
end
theorem info_bt : (Try.prog.info? 24).map (fun i => (i.zero.map (fun z => z.cells.size), i.size, i.bytes)) = some (some btM.sz, btM.sz, 72) := by kernel_rfl
def nw6 (v0 v1 v2 v3 v4 v5 : Value) : Nat → Option Value
  | 0 => some v0
  | 1 => some v1
  | 2 => some v2
  | 3 => some v3
  | 4 => some v4
  | 5 => some v5
  | _ => none
theorem i64_wrap (x : Int) : I64 (IntKind.i64.wrap x) := by rw [IntKind.wrap_i64]; unfold I64; omega
theorem i64_wrap64 (x : Int) : I64 (wrap64 x) := by unfold I64 wrap64; omega
theorem boo_at {w : World} {F : Nat → Prop} {A : Option Addr} {xs : List Bool} (h : Row boo w F A xs) (k : Nat) (hk : k < xs.length) : ∃ ad, A = some ad ∧ w.cell? (ad.add k) = some (.bool xs[k]) := by
  obtain ⟨ad, u, e, _, hK, hc⟩ := h.at1 rfl k hk
  have : [u] = [.bool xs[k]] := hK.1
  exact ⟨ad, e, by rw [hc]; injection this with this; rw [this]⟩
set_option maxRecDepth 8000 in
set_option maxHeartbeats 4000000 in
theorem RecMerges_calls (A : Option Addr) (c : Nat) (ls : List BtM) (Ag : Option Addr) (cg : Nat) (gs : List Bool) (w : World) (hc : ls.length ≤ c) (hm : c ≤ maxLen) (hr : Row btM w (fun k => k < w.heap.size) A ls) (hcg : gs.length ≤ cg) (hmg : cg ≤ maxLen) (hrg : Row boo w (fun k => k < w.heap.size) Ag gs) :
    Calls Try.prog 8 #[.slice A ls.length c, .slice Ag gs.length cg] w fun e w' => e = .returned (.bool true) ∧ Below w.heap.size w w' := by
  have Hrow := Lib.hid (fun W (hE : Ext w W) => hr.belowF (fun _ h => h) hE)
  have Hgo := Lib.hid (fun W (hE : Ext w W) => hrg.belowF (fun _ h => h) hE)
  clear hr hrg
  have hl63 : ls.length ≤ 9223372036854775807 := by unfold maxLen at hm; omega
  have hg63 : gs.length ≤ 9223372036854775807 := by unfold maxLen at hmg; omega
  go_enter Try.func8, Try.ntmps8
  go_upto_region 3 with fail
  go_loopw [5, 16] (fun v i wr => ∃ (k : Nat) (M : List BtM), (k ≤ ls.length ∧ k ≤ 6) ∧ i = .int .i64 k ∧ Hid (M.length = k) ∧ Hid (∀ b ∈ M, b.l.length ≤ 80) ∧ Own btM 24 wr w.heap.size (fr w.heap.size v) v M ∧ Ext w wr) (fun _ i _ => ls.length - (intOf i).toNat)
  case atStart => exact ⟨0, [], ⟨Nat.zero_le _, Nat.zero_le _⟩, rfl, Lib.hid rfl, Lib.hid (fun b hb => by cases hb), Own.nil _ _ _ _ _, Ext.refl _⟩
  case round =>
    obtain ⟨k, M, hk, rfl, hMk, HM, ho, hE⟩ := hrel
    obtain ⟨Am, cm, em, hcm, hmm⟩ := ho.slice
    subst em
    by_cases hlt : k < ls.length
    · have hlti : (k : Int) < (ls.length : Int) := by omega
      obtain ⟨ad, A', c', rfl, hfa, hcl, hok, hlc, hrow⟩ := bt_at (Hrow.out wr hE) k hlt
      have Hms := Lib.hid (@meas_up k ls.length hlt)
      generalize ls[k] = b at *
      obtain ⟨c0, c1, c2, c3, c4, c5, c6⟩ := hcl
      by_cases h6 : k < 6
      · have h6i : (k : Int) < 6 := by omega
        go_upto_region 5 with (refine gate_op (p := .store 24 (.tmp 7) (.tmp 20)) rfl ?_; go_must (refine put_row rfl 24 (.tmp 7) (.tmp 20) rfl wr.heap.size (btC b A' c') rfl rfl _ _ (one_new _ _).1 size_bt rfl (btC_one _ _ _) ?_; intro w5 hp5; have hE5 : Ext wr w5 := hp5.below (one_new _ _).2.1 (Nat.le_refl _); have H5 := Lib.hid (And.intro hE5 hp5.obj); clear hE5 hp5))
        clear c0 c1 c2 c3 c4 c5 c6
        obtain ⟨hE5, hj5⟩ := H5.out
        have Hcut := Lib.hid (cut3_calls w5 w.heap.size (by have := hE.size; have := hE5.size; omega) b A' c' ⟨hok, hlc, hrow.belowF (fun _ h => Nat.lt_of_lt_of_le h hE.size) hE5⟩)
        unfold btC at hj5 Hcut
        have k0 := (cell_of hj5 0).trans rfl
        have k1 := (cell_of hj5 1).trans rfl
        have k2 := (cell_of hj5 2).trans rfl
        have k3 := (cell_of hj5 3).trans rfl
        have k4 := (cell_of hj5 4).trans rfl
        have k5 := (cell_of hj5 5).trans rfl
        have k6 := (cell_of hj5 6).trans rfl
        clear hok hlc hrow H5
        go_wp2_with fail
        refine Hcut.out.mono ?_
        rintro e w6 ⟨x, hx, A2, c2, rfl, ho6, hE6⟩
        clear k0 k1 k2 k3 k4 k5 k6
        have hE56 := Ext.trans _ _ _ hE5 hE6
        unfold btC
        go_upto_region 7 with (refine gate_op (p := .store 24 (.tmp 8) (.tmp 24)) rfl ?_; go_must (refine put_row rfl 24 (.tmp 8) (.tmp 24) rfl w6.heap.size (btC x A2 c2) rfl rfl _ _ (one_new _ _).1 size_bt rfl (btC_one _ _ _) ?_; intro w7 hp7; have hE7 : Ext w6 w7 := hp7.below (one_new _ _).2.1 (Nat.le_refl _); have ho7 := hp7.own (ho6.below (one_new w6 _).2.1) (fun k hk => by have := (ho6.at hk).2; omega) (fun _ h => h.elim); have H7 := Lib.hid (And.intro hE7 (And.intro ho7 (And.intro hp7.obj (hp7.size.trans (one_new _ _).2.2)))); clear hE7 ho7 hp7))
        have hEr7 := Ext.trans _ _ _ hE56 H7.out.1
        have ho7 := H7.out.2.1
        have hj7 := H7.out.2.2.1
        have hs7 := H7.out.2.2.2
        have hM7 := ho.bound.below hEr7
        have hEw7 := Ext.trans _ _ _ hE hEr7
        have hwr := hE.size
        have hr6 := hE56.size
        have hs5 := hE5.size
        have hat7 := fun k (hk : (Value.slice A2 x.l.length c2).ownBlock = some k) => (ho6.at hk)
        have hatM := fun k (hk : (Value.slice Am M.length cm).ownBlock = some k) => (ho.at hk).2
        have Hx := Lib.hid (And.intro ho7 (And.intro hat7 hatM))
        have Hj := Lib.hid (And.intro hj7 (And.intro hM7 hEw7))
        clear Hcut H7 hj5 hE5 hE6 hE56 ho6 ho hE ho7 hj7 hat7 hatM hM7 hEw7 hEr7
        have hs67 : w6.heap.size < w7.heap.size := by omega
        have hwr6 : wr.heap.size ≤ w6.heap.size := hr6
        have Hs7 := Lib.hid hs7
        clear hs7
        generalize hh : w6.heap.size = h8 at *
        clear hh
        obtain ⟨gB, hgB⟩ : ∃ gB, gB = (decide (0 < k) && (decide (k < gs.length) && gs.getD k false)) := ⟨_, rfl⟩
        have HgB := Lib.hid hgB
        go_simp
        go_cut [38] (fun v wx => w7 = wx ∧ v = .bool gB)
        case first =>
          have hgo := Hgo.out w7 Hj.out.2.2
          by_cases h0 : 0 < k
          · have h0i : (0 : Int) < (k : Int) := by omega
            by_cases hkg : k < gs.length
            · have hkgi : (k : Int) < (gs.length : Int) := by omega
              obtain ⟨ag, rfl, hcb⟩ := boo_at hgo k hkg
              have hge : gs.getD k false = gs[k] := by simp [hkg]
              rw [hge, decide_eq_true h0, decide_eq_true hkg] at HgB
              generalize gs[k] = bb at *
              clear hge hgB
              go_wp2
              go_meet
              exact ⟨rfl, congrArg Value.bool (by rw [HgB.out]; cases bb <;> rfl)⟩
            · have hkgi : ¬ (k : Int) < (gs.length : Int) := by omega
              rw [decide_eq_true h0, decide_eq_false hkg] at HgB
              clear hgB
              go_wp2
              go_meet
              exact ⟨rfl, congrArg Value.bool (by rw [HgB.out]; rfl)⟩
          · have h0i : ¬ (0 : Int) < (k : Int) := by omega
            rw [decide_eq_false h0] at HgB
            clear hgB
            go_wp2
            go_meet
            exact ⟨rfl, congrArg Value.bool (by rw [HgB.out]; rfl)⟩
        case rest =>
          obtain ⟨rfl, rfl⟩ := hcut
          have Hk0 := Lib.hid (show gB = true → 0 < k from fun h => by
            have := HgB.out
            rw [h] at this
            have := this.symm
            simp only [Bool.and_eq_true, decide_eq_true_eq] at this
            exact this.1)
          clear hgB HgB
          go_upto_if 38 with fail
          go_cut [38] (fun v wx => v = .bool gB ∧ ∃ y : BtM, Hid (y.l = x.l ∧ BtOk y) ∧ wx.heap[h8]? = some (.cells (btC y A2 c2) 24 (0, 0)) ∧ Mut h8 w7 wx)
          case first =>
            cases gB with
            | false =>
              go_wp2
              go_meet
              exact ⟨rfl, x, Lib.hid ⟨rfl, hx.ok⟩, Hj.out.1, Mut.refl _ _⟩
            | true =>
              obtain ⟨j, hjk⟩ : ∃ j, k = j + 1 := ⟨k - 1, by have := Hk0.out rfl; omega⟩
              have hjM : j < M.length := by rw [hMk.out]; omega
              have hkj : (k : Int) - 1 = (j : Int) := by omega
              have Hjk := Lib.hid hjk
              clear hjk
              obtain ⟨Am', cm', em', _, _, hrm⟩ := Hj.out.2.1.sl
              injection em' with e7 e8 e9
              subst e7; subst e9
              obtain ⟨am, Aj, cj, eA, _, hclj, hokj, hlcj, hrowj⟩ := bt_at hrm j hjM
              have hblj := HM.out _ (List.getElem_mem hjM)
              generalize M[j] = a at *
              subst eA
              have kw : IntKind.i64.wrap (j : Int) = (j : Int) := IntWalk.i64_in _ ⟨by omega, by omega⟩
              obtain ⟨c0, c1, c2', c3, c4, c5, c6⟩ := hclj
              have hmj : (j : Int) < (M.length : Int) := by omega
              go_upto_region 9 with (refine gate_op (p := .store 24 (.tmp 9) (.tmp 43)) rfl ?_; go_must (refine put_row rfl 24 (.tmp 9) (.tmp 43) rfl w7.heap.size (btC a Aj cj) rfl rfl _ _ (one_new _ _).1 size_bt rfl (btC_one _ _ _) ?_; intro w8 hp8; have hE8 : Ext w7 w8 := hp8.below (one_new _ _).2.1 (Nat.le_refl _); have H8 := Lib.hid (And.intro hE8 hp8.obj); clear hE8 hp8))
              clear c0 c1 c2' c3 c4 c5 c6
              have ha8 := H8.out.2
              have hx8 := (H8.out.1.block h8 (by omega)).trans Hj.out.1
              unfold btC at ha8 hx8
              have k0 := (cell_of ha8 0).trans rfl
              have k1 := (cell_of ha8 1).trans rfl
              have k2 := (cell_of ha8 2).trans rfl
              have k3 := (cell_of ha8 3).trans rfl
              have k4 := (cell_of ha8 4).trans rfl
              have k5 := (cell_of ha8 5).trans rfl
              have k6 := (cell_of ha8 6).trans rfl
              have q0 := (cell_of hx8 0).trans rfl
              have q1 := (cell_of hx8 1).trans rfl
              have q2 := (cell_of hx8 2).trans rfl
              have q3 := (cell_of hx8 3).trans rfl
              have q4 := (cell_of hx8 4).trans rfl
              have q5 := (cell_of hx8 5).trans rfl
              have q6 := (cell_of hx8 6).trans rfl
              have f0 := frozen_of hx8 0
              have f1 := frozen_of hx8 1
              have f2 := frozen_of hx8 2
              have f3 := frozen_of hx8 3
              have f4 := frozen_of hx8 4
              have f5 := frozen_of hx8 5
              have f6 := frozen_of hx8 6
              have Hx8 := Lib.hid hx8
              clear ha8 hx8
              have hne8 : h8 < w7.heap.size := by omega
              have h98 : w7.heap.size < w8.heap.size := (Array.getElem?_eq_some_iff.1 H8.out.2).1
              have HA := Lib.hid (fun W (hE : Fld h8 24 (nw6 (.int .i64 (IntKind.i64.wrap (a.base + (a.l.length : Int)))) (.int .i64 a.pid) (.int .i64 a.epoch) (.int .i64 0) (.int .i64 a.kind) (.int .i64 a.time)) w8 W) => (⟨(hE.block w7.heap.size h98 (by omega)).trans H8.out.2⟩ : BtObj W w7.heap.size a Aj a.l.length cj).cells)
              clear k0 k1 k2 k3 k4 k5 k6 q0 q1 q2 q3 q4 q5 q6 f0 f1 f2 f3 f4 f5 f6
              refine wp_region_stepsB (Fld h8 24 (nw6 (.int .i64 (IntKind.i64.wrap (a.base + (a.l.length : Int)))) (.int .i64 a.pid) (.int .i64 a.epoch) (.int .i64 0) (.int .i64 a.kind) (.int .i64 a.time))) (Fld.refl h8 24 (nw6 (.int .i64 (IntKind.i64.wrap (a.base + (a.l.length : Int)))) (.int .i64 a.pid) (.int .i64 a.epoch) (.int .i64 0) (.int .i64 a.kind) (.int .i64 a.time))) (Fld.trans h8 24 (nw6 (.int .i64 (IntKind.i64.wrap (a.base + (a.l.length : Int)))) (.int .i64 a.pid) (.int .i64 a.epoch) (.int .i64 0) (.int .i64 a.kind) (.int .i64 a.time))) (Fld.drew h8 24 (nw6 (.int .i64 (IntKind.i64.wrap (a.base + (a.l.length : Int)))) (.int .i64 a.pid) (.int .i64 a.epoch) (.int .i64 0) (.int .i64 a.kind) (.int .i64 a.time))) [.eq (.pointer (some ⟨w7.heap.size, 4, none⟩)), .eq (.int .i64 a.kind), .eq (.pointer (some ⟨w7.heap.size, 1, none⟩)), .eq (.int .i64 a.pid), .eq (.pointer (some ⟨w7.heap.size, 2, none⟩)), .eq (.int .i64 a.epoch), .eq (.pointer (some ⟨w7.heap.size, 5, none⟩)), .eq (.int .i64 a.time), .eq (.pointer (some ⟨w7.heap.size, 0, none⟩)), .eq (.int .i64 a.base), .eq (.pointer (some ⟨w7.heap.size, 6, none⟩)), .eq (.slice Aj a.l.length cj), .eq (.int .i64 a.l.length), .eq (.int .i64 (IntKind.i64.wrap (a.base + (a.l.length : Int)))), .eq (.pointer (some ⟨h8, 4, none⟩)), .at 4 (.int .i64 a.kind) rfl, .eq (.pointer (some ⟨h8, 1, none⟩)), .at 1 (.int .i64 a.pid) rfl, .eq (.pointer (some ⟨h8, 2, none⟩)), .at 2 (.int .i64 a.epoch) rfl, .eq (.pointer (some ⟨h8, 5, none⟩)), .at 5 (.int .i64 a.time) rfl, .eq (.pointer (some ⟨h8, 0, none⟩)), .at 0 (.int .i64 (IntKind.i64.wrap (a.base + (a.l.length : Int)))) rfl, .eq (.pointer (some ⟨h8, 3, none⟩)), .at 3 (.int .i64 0) rfl] (by kernel_rfl) (by kernel_rfl) (fun j o' hj hd v v' w h => by
  have hj2 := none_in (ns := [15, 17, 19, 21, 23, 25]) (by kernel_rfl) hj hd
  simp only [List.mem_cons, List.not_mem_nil, or_false] at hj2
  rcases hj2 with rfl | rfl | rfl | rfl | rfl | rfl <;> exact h) ?_ ?_
              · refine ⟨?_, ?_, ?_, ?_, ?_, ?_, ?_, ?_, ?_, ?_, ?_, ?_, ?_, ?_, ?_, ?_, ?_, ?_, ?_, ?_, ?_, ?_, ?_, ?_, ?_, ?_, trivial⟩
                · intro S W K hE hf hd hK
                  have f9 : S.tmps.getD 9 undef = .pointer (some ⟨w7.heap.size, 0, none⟩) := hf 9 (by kernel_rfl)
                  refine want_free rfl ?_
                  rw [Array.getD_eq_getD_getElem?] at f9
                  go_simp
                  exact hK _ _ (Fld.refl h8 24 (nw6 (.int .i64 (IntKind.i64.wrap (a.base + (a.l.length : Int)))) (.int .i64 a.pid) (.int .i64 a.epoch) (.int .i64 0) (.int .i64 a.kind) (.int .i64 a.time)) _) (rfl)
                · intro S W K hE hf hd hK
                  have d44 : S.tmps.getD 44 undef = (.pointer (some ⟨w7.heap.size, 4, none⟩)) := hd 0 _ rfl (by kernel_rfl)
                  refine want_free rfl ?_
                  rw [Array.getD_eq_getD_getElem?] at d44
                  obtain ⟨k0, k1, k2, k3, k4, k5, k6⟩ := HA.out W hE
                  go_simp
                  exact hK _ _ (Fld.refl _ _ _ _) rfl
                · intro S W K hE hf hd hK
                  have f9 : S.tmps.getD 9 undef = .pointer (some ⟨w7.heap.size, 0, none⟩) := hf 9 (by kernel_rfl)
                  refine want_free rfl ?_
                  rw [Array.getD_eq_getD_getElem?] at f9
                  go_simp
                  exact hK _ _ (Fld.refl h8 24 (nw6 (.int .i64 (IntKind.i64.wrap (a.base + (a.l.length : Int)))) (.int .i64 a.pid) (.int .i64 a.epoch) (.int .i64 0) (.int .i64 a.kind) (.int .i64 a.time)) _) (rfl)
                · intro S W K hE hf hd hK
                  have d46 : S.tmps.getD 46 undef = (.pointer (some ⟨w7.heap.size, 1, none⟩)) := hd 2 _ rfl (by kernel_rfl)
                  refine want_free rfl ?_
                  rw [Array.getD_eq_getD_getElem?] at d46
                  obtain ⟨k0, k1, k2, k3, k4, k5, k6⟩ := HA.out W hE
                  go_simp
                  exact hK _ _ (Fld.refl _ _ _ _) rfl
                · intro S W K hE hf hd hK
                  have f9 : S.tmps.getD 9 undef = .pointer (some ⟨w7.heap.size, 0, none⟩) := hf 9 (by kernel_rfl)
                  refine want_free rfl ?_
                  rw [Array.getD_eq_getD_getElem?] at f9
                  go_simp
                  exact hK _ _ (Fld.refl h8 24 (nw6 (.int .i64 (IntKind.i64.wrap (a.base + (a.l.length : Int)))) (.int .i64 a.pid) (.int .i64 a.epoch) (.int .i64 0) (.int .i64 a.kind) (.int .i64 a.time)) _) (rfl)
                · intro S W K hE hf hd hK
                  have d48 : S.tmps.getD 48 undef = (.pointer (some ⟨w7.heap.size, 2, none⟩)) := hd 4 _ rfl (by kernel_rfl)
                  refine want_free rfl ?_
                  rw [Array.getD_eq_getD_getElem?] at d48
                  obtain ⟨k0, k1, k2, k3, k4, k5, k6⟩ := HA.out W hE
                  go_simp
                  exact hK _ _ (Fld.refl _ _ _ _) rfl
                · intro S W K hE hf hd hK
                  have f9 : S.tmps.getD 9 undef = .pointer (some ⟨w7.heap.size, 0, none⟩) := hf 9 (by kernel_rfl)
                  refine want_free rfl ?_
                  rw [Array.getD_eq_getD_getElem?] at f9
                  go_simp
                  exact hK _ _ (Fld.refl h8 24 (nw6 (.int .i64 (IntKind.i64.wrap (a.base + (a.l.length : Int)))) (.int .i64 a.pid) (.int .i64 a.epoch) (.int .i64 0) (.int .i64 a.kind) (.int .i64 a.time)) _) (rfl)
                · intro S W K hE hf hd hK
                  have d50 : S.tmps.getD 50 undef = (.pointer (some ⟨w7.heap.size, 5, none⟩)) := hd 6 _ rfl (by kernel_rfl)
                  refine want_free rfl ?_
                  rw [Array.getD_eq_getD_getElem?] at d50
                  obtain ⟨k0, k1, k2, k3, k4, k5, k6⟩ := HA.out W hE
                  go_simp
                  exact hK _ _ (Fld.refl _ _ _ _) rfl
                · intro S W K hE hf hd hK
                  have f9 : S.tmps.getD 9 undef = .pointer (some ⟨w7.heap.size, 0, none⟩) := hf 9 (by kernel_rfl)
                  refine want_free rfl ?_
                  rw [Array.getD_eq_getD_getElem?] at f9
                  go_simp
                  exact hK _ _ (Fld.refl h8 24 (nw6 (.int .i64 (IntKind.i64.wrap (a.base + (a.l.length : Int)))) (.int .i64 a.pid) (.int .i64 a.epoch) (.int .i64 0) (.int .i64 a.kind) (.int .i64 a.time)) _) (rfl)
                · intro S W K hE hf hd hK
                  have d52 : S.tmps.getD 52 undef = (.pointer (some ⟨w7.heap.size, 0, none⟩)) := hd 8 _ rfl (by kernel_rfl)
                  refine want_free rfl ?_
                  rw [Array.getD_eq_getD_getElem?] at d52
                  obtain ⟨k0, k1, k2, k3, k4, k5, k6⟩ := HA.out W hE
                  go_simp
                  exact hK _ _ (Fld.refl _ _ _ _) rfl
                · intro S W K hE hf hd hK
                  have f9 : S.tmps.getD 9 undef = .pointer (some ⟨w7.heap.size, 0, none⟩) := hf 9 (by kernel_rfl)
                  refine want_free rfl ?_
                  rw [Array.getD_eq_getD_getElem?] at f9
                  go_simp
                  exact hK _ _ (Fld.refl h8 24 (nw6 (.int .i64 (IntKind.i64.wrap (a.base + (a.l.length : Int)))) (.int .i64 a.pid) (.int .i64 a.epoch) (.int .i64 0) (.int .i64 a.kind) (.int .i64 a.time)) _) (rfl)
                · intro S W K hE hf hd hK
                  have d54 : S.tmps.getD 54 undef = (.pointer (some ⟨w7.heap.size, 6, none⟩)) := hd 10 _ rfl (by kernel_rfl)
                  refine want_free rfl ?_
                  rw [Array.getD_eq_getD_getElem?] at d54
                  obtain ⟨k0, k1, k2, k3, k4, k5, k6⟩ := HA.out W hE
                  go_simp
                  exact hK _ _ (Fld.refl _ _ _ _) rfl
                · intro S W K hE hf hd hK
                  have d55 : S.tmps.getD 55 undef = (.slice Aj a.l.length cj) := hd 11 _ rfl (by kernel_rfl)
                  refine want_free rfl ?_
                  rw [Array.getD_eq_getD_getElem?] at d55
                  go_simp
                  exact hK _ _ (Fld.refl h8 24 (nw6 (.int .i64 (IntKind.i64.wrap (a.base + (a.l.length : Int)))) (.int .i64 a.pid) (.int .i64 a.epoch) (.int .i64 0) (.int .i64 a.kind) (.int .i64 a.time)) _) (rfl)
                · intro S W K hE hf hd hK
                  have d53 : S.tmps.getD 53 undef = (.int .i64 a.base) := hd 9 _ rfl (by kernel_rfl)
                  have d56 : S.tmps.getD 56 undef = (.int .i64 a.l.length) := hd 12 _ rfl (by kernel_rfl)
                  refine want_free rfl ?_
                  rw [Array.getD_eq_getD_getElem?] at d53 d56
                  go_simp
                  exact hK _ _ (Fld.refl h8 24 (nw6 (.int .i64 (IntKind.i64.wrap (a.base + (a.l.length : Int)))) (.int .i64 a.pid) (.int .i64 a.epoch) (.int .i64 0) (.int .i64 a.kind) (.int .i64 a.time)) _) (rfl)
                · intro S W K hE hf hd hK
                  have f8 : S.tmps.getD 8 undef = .pointer (some ⟨h8, 0, none⟩) := hf 8 (by kernel_rfl)
                  refine want_free rfl ?_
                  rw [Array.getD_eq_getD_getElem?] at f8
                  go_simp
                  exact hK _ _ (Fld.refl h8 24 (nw6 (.int .i64 (IntKind.i64.wrap (a.base + (a.l.length : Int)))) (.int .i64 a.pid) (.int .i64 a.epoch) (.int .i64 0) (.int .i64 a.kind) (.int .i64 a.time)) _) (rfl)
                · intro S W K hE hf hd hK
                  have d58 : S.tmps.getD 58 undef = (.pointer (some ⟨h8, 4, none⟩)) := hd 14 _ rfl (by kernel_rfl)
                  have d45 : S.tmps.getD 45 undef = (.int .i64 a.kind) := hd 1 _ rfl (by kernel_rfl)
                  refine want_free rfl ?_
                  rw [Array.getD_eq_getD_getElem?] at d58 d45
                  obtain ⟨u, g1, g2, g3, g4⟩ := hE.put Hx8.out 4 (.int .i64 a.kind) rfl (show 4 < 7 by decide)
                  go_simp
                  exact hK undef _ g3 g4
                · intro S W K hE hf hd hK
                  have f8 : S.tmps.getD 8 undef = .pointer (some ⟨h8, 0, none⟩) := hf 8 (by kernel_rfl)
                  refine want_free rfl ?_
                  rw [Array.getD_eq_getD_getElem?] at f8
                  go_simp
                  exact hK _ _ (Fld.refl h8 24 (nw6 (.int .i64 (IntKind.i64.wrap (a.base + (a.l.length : Int)))) (.int .i64 a.pid) (.int .i64 a.epoch) (.int .i64 0) (.int .i64 a.kind) (.int .i64 a.time)) _) (rfl)
                · intro S W K hE hf hd hK
                  have d59 : S.tmps.getD 59 undef = (.pointer (some ⟨h8, 1, none⟩)) := hd 16 _ rfl (by kernel_rfl)
                  have d47 : S.tmps.getD 47 undef = (.int .i64 a.pid) := hd 3 _ rfl (by kernel_rfl)
                  refine want_free rfl ?_
                  rw [Array.getD_eq_getD_getElem?] at d59 d47
                  obtain ⟨u, g1, g2, g3, g4⟩ := hE.put Hx8.out 1 (.int .i64 a.pid) rfl (show 1 < 7 by decide)
                  go_simp
                  exact hK undef _ g3 g4
                · intro S W K hE hf hd hK
                  have f8 : S.tmps.getD 8 undef = .pointer (some ⟨h8, 0, none⟩) := hf 8 (by kernel_rfl)
                  refine want_free rfl ?_
                  rw [Array.getD_eq_getD_getElem?] at f8
                  go_simp
                  exact hK _ _ (Fld.refl h8 24 (nw6 (.int .i64 (IntKind.i64.wrap (a.base + (a.l.length : Int)))) (.int .i64 a.pid) (.int .i64 a.epoch) (.int .i64 0) (.int .i64 a.kind) (.int .i64 a.time)) _) (rfl)
                · intro S W K hE hf hd hK
                  have d60 : S.tmps.getD 60 undef = (.pointer (some ⟨h8, 2, none⟩)) := hd 18 _ rfl (by kernel_rfl)
                  have d49 : S.tmps.getD 49 undef = (.int .i64 a.epoch) := hd 5 _ rfl (by kernel_rfl)
                  refine want_free rfl ?_
                  rw [Array.getD_eq_getD_getElem?] at d60 d49
                  obtain ⟨u, g1, g2, g3, g4⟩ := hE.put Hx8.out 2 (.int .i64 a.epoch) rfl (show 2 < 7 by decide)
                  go_simp
                  exact hK undef _ g3 g4
                · intro S W K hE hf hd hK
                  have f8 : S.tmps.getD 8 undef = .pointer (some ⟨h8, 0, none⟩) := hf 8 (by kernel_rfl)
                  refine want_free rfl ?_
                  rw [Array.getD_eq_getD_getElem?] at f8
                  go_simp
                  exact hK _ _ (Fld.refl h8 24 (nw6 (.int .i64 (IntKind.i64.wrap (a.base + (a.l.length : Int)))) (.int .i64 a.pid) (.int .i64 a.epoch) (.int .i64 0) (.int .i64 a.kind) (.int .i64 a.time)) _) (rfl)
                · intro S W K hE hf hd hK
                  have d61 : S.tmps.getD 61 undef = (.pointer (some ⟨h8, 5, none⟩)) := hd 20 _ rfl (by kernel_rfl)
                  have d51 : S.tmps.getD 51 undef = (.int .i64 a.time) := hd 7 _ rfl (by kernel_rfl)
                  refine want_free rfl ?_
                  rw [Array.getD_eq_getD_getElem?] at d61 d51
                  obtain ⟨u, g1, g2, g3, g4⟩ := hE.put Hx8.out 5 (.int .i64 a.time) rfl (show 5 < 7 by decide)
                  go_simp
                  exact hK undef _ g3 g4
                · intro S W K hE hf hd hK
                  have f8 : S.tmps.getD 8 undef = .pointer (some ⟨h8, 0, none⟩) := hf 8 (by kernel_rfl)
                  refine want_free rfl ?_
                  rw [Array.getD_eq_getD_getElem?] at f8
                  go_simp
                  exact hK _ _ (Fld.refl h8 24 (nw6 (.int .i64 (IntKind.i64.wrap (a.base + (a.l.length : Int)))) (.int .i64 a.pid) (.int .i64 a.epoch) (.int .i64 0) (.int .i64 a.kind) (.int .i64 a.time)) _) (rfl)
                · intro S W K hE hf hd hK
                  have d62 : S.tmps.getD 62 undef = (.pointer (some ⟨h8, 0, none⟩)) := hd 22 _ rfl (by kernel_rfl)
                  have d57 : S.tmps.getD 57 undef = (.int .i64 (IntKind.i64.wrap (a.base + (a.l.length : Int)))) := hd 13 _ rfl (by kernel_rfl)
                  refine want_free rfl ?_
                  rw [Array.getD_eq_getD_getElem?] at d62 d57
                  obtain ⟨u, g1, g2, g3, g4⟩ := hE.put Hx8.out 0 (.int .i64 (IntKind.i64.wrap (a.base + (a.l.length : Int)))) rfl (show 0 < 7 by decide)
                  go_simp
                  exact hK undef _ g3 g4
                · intro S W K hE hf hd hK
                  have f8 : S.tmps.getD 8 undef = .pointer (some ⟨h8, 0, none⟩) := hf 8 (by kernel_rfl)
                  refine want_free rfl ?_
                  rw [Array.getD_eq_getD_getElem?] at f8
                  go_simp
                  exact hK _ _ (Fld.refl h8 24 (nw6 (.int .i64 (IntKind.i64.wrap (a.base + (a.l.length : Int)))) (.int .i64 a.pid) (.int .i64 a.epoch) (.int .i64 0) (.int .i64 a.kind) (.int .i64 a.time)) _) (rfl)
                · intro S W K hE hf hd hK
                  have d63 : S.tmps.getD 63 undef = (.pointer (some ⟨h8, 3, none⟩)) := hd 24 _ rfl (by kernel_rfl)
                  refine want_free rfl ?_
                  rw [Array.getD_eq_getD_getElem?] at d63
                  obtain ⟨u, g1, g2, g3, g4⟩ := hE.put Hx8.out 3 (.int .i64 0) rfl (show 3 < 7 by decide)
                  go_simp
                  exact hK undef _ g3 g4
              · intro vs W hE hV
                have v0 : vs 0 = (.pointer (some ⟨w7.heap.size, 4, none⟩)) := hV 0 _ rfl
                have v1 : vs 1 = (.int .i64 a.kind) := hV 1 _ rfl
                have v2 : vs 2 = (.pointer (some ⟨w7.heap.size, 1, none⟩)) := hV 2 _ rfl
                have v3 : vs 3 = (.int .i64 a.pid) := hV 3 _ rfl
                have v4 : vs 4 = (.pointer (some ⟨w7.heap.size, 2, none⟩)) := hV 4 _ rfl
                have v5 : vs 5 = (.int .i64 a.epoch) := hV 5 _ rfl
                have v6 : vs 6 = (.pointer (some ⟨w7.heap.size, 5, none⟩)) := hV 6 _ rfl
                have v7 : vs 7 = (.int .i64 a.time) := hV 7 _ rfl
                have v8 : vs 8 = (.pointer (some ⟨w7.heap.size, 0, none⟩)) := hV 8 _ rfl
                have v9 : vs 9 = (.int .i64 a.base) := hV 9 _ rfl
                have v10 : vs 10 = (.pointer (some ⟨w7.heap.size, 6, none⟩)) := hV 10 _ rfl
                have v11 : vs 11 = (.slice Aj a.l.length cj) := hV 11 _ rfl
                have v12 : vs 12 = (.int .i64 a.l.length) := hV 12 _ rfl
                have v13 : vs 13 = (.int .i64 (IntKind.i64.wrap (a.base + (a.l.length : Int)))) := hV 13 _ rfl
                have v14 : vs 14 = (.pointer (some ⟨h8, 4, none⟩)) := hV 14 _ rfl
                have v15 := hV 15 _ rfl
                have v16 : vs 16 = (.pointer (some ⟨h8, 1, none⟩)) := hV 16 _ rfl
                have v17 := hV 17 _ rfl
                have v18 : vs 18 = (.pointer (some ⟨h8, 2, none⟩)) := hV 18 _ rfl
                have v19 := hV 19 _ rfl
                have v20 : vs 20 = (.pointer (some ⟨h8, 5, none⟩)) := hV 20 _ rfl
                have v21 := hV 21 _ rfl
                have v22 : vs 22 = (.pointer (some ⟨h8, 0, none⟩)) := hV 22 _ rfl
                have v23 := hV 23 _ rfl
                have v24 : vs 24 = (.pointer (some ⟨h8, 3, none⟩)) := hV 24 _ rfl
                have v25 := hV 25 _ rfl
                clear hV
                set_option maxRecDepth 100000 in simp only [putAll, List.map_cons, List.map_nil, List.length_cons, List.length_nil, Nat.reduceAdd, List.range_succ, List.range_zero, List.nil_append, List.cons_append]
                set_option maxRecDepth 100000 in go_simp
                have hfin : W.heap[h8]? = some (.cells #[.int .i64 (IntKind.i64.wrap (a.base + (a.l.length : Int))), .int .i64 a.pid, .int .i64 a.epoch, .int .i64 0, .int .i64 a.kind, .int .i64 a.time, .slice A2 x.l.length c2] 24 (0, 0)) := by
                  refine hE.seven Hx8.out rfl _ _ _ _ _ _ _ (fun i v hv => ?_)
                  match i, hv with
                  | 0, hv => simp at hv; subst hv; exact .inr v23
                  | 1, hv => simp at hv; subst hv; exact .inr v17
                  | 2, hv => simp at hv; subst hv; exact .inr v19
                  | 3, hv => simp at hv; subst hv; exact .inr v25
                  | 4, hv => simp at hv; subst hv; exact .inr v15
                  | 5, hv => simp at hv; subst hv; exact .inr v21
                  | 6, hv => simp at hv; subst hv; exact .inl ⟨rfl, rfl⟩
                  | i + 7, hv => simp at hv
                have hmW : Mut h8 w7 W := by
                  have hm8 : Mut h8 w7 w8 := Mut.of H8.out.1
                  exact hm8.trans ⟨hE.os, hE.tape, hE.output, hE.size, hE.block⟩
                have hj9 := (hE.block w7.heap.size h98 (by omega)).trans H8.out.2
                clear v0 v1 v2 v3 v4 v5 v6 v7 v8 v9 v10 v11 v12 v13 v14 v15 v16 v17 v18 v19 v20 v21 v22 v23 v24 v25
                have Hfin := Lib.hid (And.intro hfin (And.intro hmW hokj))
                obtain ⟨bs, hbs⟩ : ∃ bs, bs = IntKind.i64.wrap (a.base + (a.l.length : Int)) := ⟨_, rfl⟩
                have hbs2 : I64 bs := by rw [hbs]; exact i64_wrap _
                rw [← hbs] at Hfin
                have Hbs2 := Lib.hid hbs2
                obtain ⟨k0, k1, k2, k3, k4, k5, k6⟩ := HA.out W hE
                clear hbs hbs2 HA hE hfin hmW Hx8 H8 hokj hj9
                by_cases hp : 0 < a.pid
                · have hpd : decide (0 < a.pid) = true := decide_eq_true hp
                  go_wp2_with (refine gate_op (p := .store 3 (.tmp 73) (.tmp 72)) rfl ?_; go_must (refine put_cell rfl 3 (.tmp 73) (.tmp 72) rfl h8 3 (.int .i64 (wrap64 (a.seq + (a.l.length : Int)))) rfl rfl rfl _ _ Hfin.out.1 size_int (show 3 < 7 by decide) ?_; intro w9 hp9))
                  go_meet
                  exact ⟨rfl, ⟨bs, a.pid, a.epoch, wrap64 (a.seq + (a.l.length : Int)), a.kind, a.time, x.l⟩, Lib.hid ⟨rfl, ⟨Hbs2.out, Hfin.out.2.2.pid, Hfin.out.2.2.epoch, i64_wrap64 _, Hfin.out.2.2.kind, Hfin.out.2.2.time⟩⟩, hp9.obj, Hfin.out.2.1.trans ⟨hp9.os, hp9.tape, hp9.output, by rw [hp9.size]; exact Nat.le_refl _, fun k _ hk => hp9.block k hk⟩⟩
                · have hpd : decide (0 < a.pid) = false := decide_eq_false hp
                  go_wp2
                  go_meet
                  exact ⟨rfl, ⟨bs, a.pid, a.epoch, 0, a.kind, a.time, x.l⟩, Lib.hid ⟨rfl, ⟨Hbs2.out, Hfin.out.2.2.pid, Hfin.out.2.2.epoch, by unfold I64; simp only; omega, Hfin.out.2.2.kind, Hfin.out.2.2.time⟩⟩, Hfin.out.1, Hfin.out.2.1⟩
          case rest =>
            obtain ⟨rfl, y, Hy, hj8, hmt⟩ := hcut
            have hbl2 := hx.len
            have ho8 : Own recK 54 wc w5.heap.size (fun _ => False) (.slice A2 x.l.length c2) x.l := Hx.out.1.move (fun k hk => hmt.block k (by have := (Hx.out.2.1 k hk).2; omega) (by have := (Hx.out.2.1 k hk).2; omega)) (fun _ h => h.elim)
            have hM8 : Own btM 24 wc w.heap.size (fr w.heap.size (.slice Am M.length cm)) (.slice Am M.length cm) M := by
              exact (Hj.out.2.1.step (fun k hk => hmt.block k (by have := Hx.out.2.2 k hk; omega) (by have := Hx.out.2.2 k hk; omega)) (fun k hk hl => hmt.block k hl (by have := hk.2; omega))).mono fun k hk => hk.1
            have hEc : Ext w wc := Below.trans Hj.out.2.2 (hmt.below (B := w.heap.size) (by omega) (by omega))
            have hcs := hEc.size
            obtain ⟨A2', c2', e2, l2, m2, hr2⟩ := ho8.sl
            injection e2 with e3 e4 e5
            subst e3; subst e5
            have Hky := Lib.hid (show ∀ W, Ext wc W → btM.K W (fr w.heap.size (.slice Am M.length cm)) y (btC y A2 c2).toList from fun W hE' => ⟨A2, c2, rfl, Hy.out.2, by rw [Hy.out.1]; exact ⟨l2, m2⟩, by
              rw [Hy.out.1]
              refine (hr2.step (fun k hk hl => hE'.block k hl)).mono fun k hk => ?_
              have hk := hk.resolve_left id
              have h1 := (ho8.at hk).1
              exact ⟨by omega, fun e => by have := Hx.out.2.2 k e.symm; omega⟩⟩)
            have Hyl := Lib.hid (show y.l.length ≤ 80 from by rw [Hy.out.1]; exact hbl2)
            have HM8 := Lib.hid (And.intro hM8 hEc)
            unfold btC at hj8 Hky
            have q0 := (cell_of hj8 0).trans rfl
            have q1 := (cell_of hj8 1).trans rfl
            have q2 := (cell_of hj8 2).trans rfl
            have q3 := (cell_of hj8 3).trans rfl
            have q4 := (cell_of hj8 4).trans rfl
            have q5 := (cell_of hj8 5).trans rfl
            have q6 := (cell_of hj8 6).trans rfl
            clear hr2 ho8 hM8 Hj Hx hj8 Hgo
            have hM6 : M.length ≤ 6 := by have := hMk.out; omega
            have Hnew := Lib.hid (fun (o : Obj) => one_new wc o)
            go_wp2_with (at_builtin; go_must (refine app_nest btM w.heap.size rfl (.tmp 74) (.tmp 76) 41 24 72 rfl Try.underlying41 info_bt (.slice Am M.length cm) M y wc.heap.size [.int .i64 y.base, .int .i64 y.pid, .int .i64 y.epoch, .int .i64 y.seq, .int .i64 y.kind, .int .i64 y.time, .slice A2 y.l.length c2] rfl rfl (HM8.out.1.alloc _) (boxedN (one_new wc _).1) (Hky.out _ (one_new wc _).2.1) (by omega) (by simp only [maxLen]; omega) (by simp; omega) ?_; intro v9 w9 ho9 hg9 ha9))
            have hE9 : Ext w w9 := Below.grown (Ext.trans _ _ _ HM8.out.2 (one_new wc _).2.1) hg9 (by simp; omega) (fun k hk => by have := (HM8.out.1.at hk).1; omega)
            have Hfin := Lib.hid (And.intro ho9 hE9)
            clear ho9 hg9 ha9 hE9
            go_roundw
            case rel => exact ⟨k + 1, M ++ [y], ⟨hlt, by omega⟩, by go_num, Lib.hid (by rw [List.length_append, hMk.out]; rfl), Lib.hid (fun b hb => by
              rcases List.mem_append.1 hb with hb | hb
              · exact HM.out b hb
              · rw [List.mem_singleton.1 hb]; exact Hyl.out), Hfin.out.1, Hfin.out.2⟩
            case measure => simp [intOf]; omega
      · have h6i : ¬ (k : Int) < 6 := by omega
        go_upto_region 14 with (refine gate_op (p := .store 24 (.tmp 7) (.tmp 20)) rfl ?_; go_must (refine put_row rfl 24 (.tmp 7) (.tmp 20) rfl wr.heap.size (btC b A' c') rfl rfl _ _ (one_new _ _).1 size_bt rfl (btC_one _ _ _) ?_; intro wb hpb; have hEb : Ext wr wb := hpb.below (one_new _ _).2.1 (Nat.le_refl _); have Hb := Lib.hid hEb; clear hEb hpb))
        clear c0 c1 c2 c3 c4 c5 c6
        have ho := ho.below Hb.out
        have hE := Ext.trans _ _ _ hE Hb.out
        have Hl3 := Lib.hid (show M.length ≤ 1000 from by have := hMk.out; omega)
        have Hl4 := Lib.hid (show ∀ b ∈ M, b.l.length ≤ 1000 from fun b hb => by have := HM.out b hb; omega)
        have hat := fun k (hk : (Value.slice Am M.length cm).ownBlock = some k) => (ho.at hk).2
        obtain ⟨Am', cm', em', _, _, hrm⟩ := ho.bound.sl
        injection em' with e7 e8 e9
        subst e7; subst e9
        have hrm2 := hrm.mono (G := fun k => k < wb.heap.size) fun k hk => by
          rcases hk with hk | hk
          · exact hk.2
          · exact hat k hk
        have HR := Lib.hid (fun W (hE' : Ext wb W) => hrm2.belowF (fun _ h => h) hE')
        have Hmg := Lib.hid (Merge_calls wb Am cm M hcm hmm Hl3.out Hl4.out hrm2)
        have Hrm := Lib.hid (fun W (hE' : Ext wb W) => Rmerge_calls W Am cm M hcm hmm Hl3.out Hl4.out ((HR.out W hE').mono fun k hk => Nat.lt_of_lt_of_le hk hE'.size))
        obtain ⟨Q, hQ⟩ : ∃ q, q = mergeB M := ⟨_, rfl⟩
        rw [← hQ] at Hmg Hrm
        clear hQ ho hat hrm hrm2 HR
        unfold MergePost at Hmg
        unfold RMergePost at Hrm
        go_wp2_with fail
        refine Hmg.out.mono ?_
        rintro e w5 ⟨b1, A1, c1, er1, rfl, ho1, hE5, hq1⟩
        unfold btC
        have HQ1 := Lib.hid hq1
        clear hq1 Hmg
        go_upto_region 15 with (refine gate_op (p := .store 24 (.tmp 10) (.tmp 82)) rfl ?_; go_must (refine put_row rfl 24 (.tmp 10) (.tmp 82) rfl w5.heap.size (btC b1 A1 c1) rfl rfl _ _ (one_new _ _).1 size_bt rfl (btC_one _ _ _) ?_; intro w6 hp6; have hE6 : Ext w5 w6 := hp6.below (one_new _ _).2.1 (Nat.le_refl _); have ho6 := hp6.own (ho1.below (one_new w5 _).2.1) (fun k hk => by have := (ho1.at hk).2; omega) (fun _ h => h.elim); have H6 := Lib.hid (And.intro hE6 (And.intro ho6 hp6.obj)); clear hE6 ho6 hp6))
        have hE56 := Ext.trans _ _ _ hE5 H6.out.1
        have Hrm6 := Lib.hid (Hrm.out w6 hE56)
        clear Hrm ho1
        go_wp2_with fail
        refine Hrm6.out.mono ?_
        rintro e w7 ⟨b2, A2, c2, er2, rfl, hbt2, hE7, hq2⟩
        have hbe : b2 = b1 ∧ er2 = er1 := by
          have := hq2.symm.trans HQ1.out
          injection this with h1 h2
          exact ⟨h1, h2⟩
        obtain ⟨rfl, rfl⟩ := hbe
        unfold btC
        clear hq2 Hrm6 HQ1
        go_upto_region 16 with (refine gate_op (p := .store 24 (.tmp 12) (.tmp 87)) rfl ?_; go_must (refine put_row rfl 24 (.tmp 12) (.tmp 87) rfl w7.heap.size (btC b2 A2 c2) rfl rfl _ _ (one_new _ _).1 size_bt rfl (btC_one _ _ _) ?_; intro w8 hp8; have hE8 : Ext w7 w8 := hp8.below (one_new _ _).2.1 (Nat.le_refl _); have H8 := Lib.hid (And.intro hE8 hp8.obj); clear hE8 hp8))
        have hE78 := Ext.trans _ _ _ hE7 H8.out.1
        have hs56 : w5.heap.size < w6.heap.size := (Array.getElem?_eq_some_iff.1 H6.out.2.2).1
        have hj6 := (hE78.block w5.heap.size (by omega)).trans H6.out.2.2
        have hj8 := H8.out.2
        have hb2 := (hbt2.below H8.out.1).up H8.out.1.size
        have hb1 := (btAt_own hbt2.ok H6.out.2.1).below hE78 |>.up hE78.size
        have hE8w := Ext.trans _ _ _ hE (Ext.trans _ _ _ hE56 hE78)
        have Hs := Lib.hid (Rsame_calls w8 w8.heap.size (Nat.le_refl _) b2 b2 A1 A2 c1 c2 hb1 hb2)
        rw [same_self] at Hs
        have hee : (er2 == er2) = true := by simp
        unfold btC at hj6 hj8 Hs
        have k0 := (cell_of hj6 0).trans rfl
        have k1 := (cell_of hj6 1).trans rfl
        have k2 := (cell_of hj6 2).trans rfl
        have k3 := (cell_of hj6 3).trans rfl
        have k4 := (cell_of hj6 4).trans rfl
        have k5 := (cell_of hj6 5).trans rfl
        have k6 := (cell_of hj6 6).trans rfl
        have q0 := (cell_of hj8 0).trans rfl
        have q1 := (cell_of hj8 1).trans rfl
        have q2 := (cell_of hj8 2).trans rfl
        have q3 := (cell_of hj8 3).trans rfl
        have q4 := (cell_of hj8 4).trans rfl
        have q5 := (cell_of hj8 5).trans rfl
        have q6 := (cell_of hj8 6).trans rfl
        clear hj6 hj8 hb1 hb2 hbt2 H6 H8 hE5 hE7 hE56 hE78
        go_wp2_with fail
        refine Hs.out.mono ?_
        rintro e w9 ⟨rfl, hE9⟩
        clear k0 k1 k2 k3 k4 k5 k6 q0 q1 q2 q3 q4 q5 q6
        go_wp2_with fail
        refine (awake3_calls _).mono ?_
        rintro e w10 ⟨rfl, hE10⟩
        go_wp2
        go_ret
        exact ⟨rfl, Ext.trans _ _ _ hE8w (Ext.trans _ _ _ hE9 hE10)⟩
    · obtain rfl : k = ls.length := by omega
      have Hl3 := Lib.hid (show M.length ≤ 1000 from by have := hMk.out; omega)
      have Hl4 := Lib.hid (show ∀ b ∈ M, b.l.length ≤ 1000 from fun b hb => by have := HM.out b hb; omega)
      have hat := fun k (hk : (Value.slice Am M.length cm).ownBlock = some k) => (ho.at hk).2
      obtain ⟨Am', cm', em', _, _, hrm⟩ := ho.bound.sl
      injection em' with e7 e8 e9
      subst e7; subst e9
      have hrm2 := hrm.mono (G := fun k => k < wr.heap.size) fun k hk => by
        rcases hk with hk | hk
        · exact hk.2
        · exact hat k hk
      have HR := Lib.hid (fun W (hE' : Ext wr W) => hrm2.belowF (fun _ h => h) hE')
      have Hmg := Lib.hid (Merge_calls wr Am cm M hcm hmm Hl3.out Hl4.out hrm2)
      have Hrm := Lib.hid (fun W (hE' : Ext wr W) => Rmerge_calls W Am cm M hcm hmm Hl3.out Hl4.out ((HR.out W hE').mono fun k hk => Nat.lt_of_lt_of_le hk hE'.size))
      obtain ⟨Q, hQ⟩ : ∃ q, q = mergeB M := ⟨_, rfl⟩
      rw [← hQ] at Hmg Hrm
      clear hQ ho hat hrm hrm2 HR
      unfold MergePost at Hmg
      unfold RMergePost at Hrm
      go_wp2_with fail
      refine Hmg.out.mono ?_
      rintro e w5 ⟨b1, A1, c1, er1, rfl, ho1, hE5, hq1⟩
      unfold btC
      have HQ1 := Lib.hid hq1
      clear hq1 Hmg
      go_upto_region 15 with (refine gate_op (p := .store 24 (.tmp 10) (.tmp 82)) rfl ?_; go_must (refine put_row rfl 24 (.tmp 10) (.tmp 82) rfl w5.heap.size (btC b1 A1 c1) rfl rfl _ _ (one_new _ _).1 size_bt rfl (btC_one _ _ _) ?_; intro w6 hp6; have hE6 : Ext w5 w6 := hp6.below (one_new _ _).2.1 (Nat.le_refl _); have ho6 := hp6.own (ho1.below (one_new w5 _).2.1) (fun k hk => by have := (ho1.at hk).2; omega) (fun _ h => h.elim); have H6 := Lib.hid (And.intro hE6 (And.intro ho6 hp6.obj)); clear hE6 ho6 hp6))
      have hE56 := Ext.trans _ _ _ hE5 H6.out.1
      have Hrm6 := Lib.hid (Hrm.out w6 hE56)
      clear Hrm ho1
      go_wp2_with fail
      refine Hrm6.out.mono ?_
      rintro e w7 ⟨b2, A2, c2, er2, rfl, hbt2, hE7, hq2⟩
      have hbe : b2 = b1 ∧ er2 = er1 := by
        have := hq2.symm.trans HQ1.out
        injection this with h1 h2
        exact ⟨h1, h2⟩
      obtain ⟨rfl, rfl⟩ := hbe
      unfold btC
      clear hq2 Hrm6 HQ1
      go_upto_region 16 with (refine gate_op (p := .store 24 (.tmp 12) (.tmp 87)) rfl ?_; go_must (refine put_row rfl 24 (.tmp 12) (.tmp 87) rfl w7.heap.size (btC b2 A2 c2) rfl rfl _ _ (one_new _ _).1 size_bt rfl (btC_one _ _ _) ?_; intro w8 hp8; have hE8 : Ext w7 w8 := hp8.below (one_new _ _).2.1 (Nat.le_refl _); have H8 := Lib.hid (And.intro hE8 hp8.obj); clear hE8 hp8))
      have hE78 := Ext.trans _ _ _ hE7 H8.out.1
      have hs56 : w5.heap.size < w6.heap.size := (Array.getElem?_eq_some_iff.1 H6.out.2.2).1
      have hj6 := (hE78.block w5.heap.size (by omega)).trans H6.out.2.2
      have hj8 := H8.out.2
      have hb2 := (hbt2.below H8.out.1).up H8.out.1.size
      have hb1 := (btAt_own hbt2.ok H6.out.2.1).below hE78 |>.up hE78.size
      have hE8w := Ext.trans _ _ _ hE (Ext.trans _ _ _ hE56 hE78)
      have Hs := Lib.hid (Rsame_calls w8 w8.heap.size (Nat.le_refl _) b2 b2 A1 A2 c1 c2 hb1 hb2)
      rw [same_self] at Hs
      have hee : (er2 == er2) = true := by simp
      unfold btC at hj6 hj8 Hs
      have k0 := (cell_of hj6 0).trans rfl
      have k1 := (cell_of hj6 1).trans rfl
      have k2 := (cell_of hj6 2).trans rfl
      have k3 := (cell_of hj6 3).trans rfl
      have k4 := (cell_of hj6 4).trans rfl
      have k5 := (cell_of hj6 5).trans rfl
      have k6 := (cell_of hj6 6).trans rfl
      have q0 := (cell_of hj8 0).trans rfl
      have q1 := (cell_of hj8 1).trans rfl
      have q2 := (cell_of hj8 2).trans rfl
      have q3 := (cell_of hj8 3).trans rfl
      have q4 := (cell_of hj8 4).trans rfl
      have q5 := (cell_of hj8 5).trans rfl
      have q6 := (cell_of hj8 6).trans rfl
      clear hj6 hj8 hb1 hb2 hbt2 H6 H8 hE5 hE7 hE56 hE78
      go_wp2_with fail
      refine Hs.out.mono ?_
      rintro e w9 ⟨rfl, hE9⟩
      clear k0 k1 k2 k3 k4 k5 k6 q0 q1 q2 q3 q4 q5 q6
      go_wp2_with fail
      refine (awake3_calls _).mono ?_
      rintro e w10 ⟨rfl, hE10⟩
      go_wp2
      go_ret
      exact ⟨rfl, Ext.trans _ _ _ hE8w (Ext.trans _ _ _ hE9 hE10)⟩
end Go.Proofs.Ytaomhedjamnloaa
