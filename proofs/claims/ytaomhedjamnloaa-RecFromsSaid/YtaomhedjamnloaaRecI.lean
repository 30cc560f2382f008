/- Contracts of rec: Mark, Next, Size; the document's Span. -/
import Derived.Test.YtaomhedjamnloaaRecE
import Derived.Test.YtaomhedjamnloaaRecH
set_option linter.unusedVariables false
set_option linter.unusedSimpArgs false
namespace Go.Proofs.Ytaomhedjamnloaa
open Go Go.RowKit

set_option maxRecDepth 8000 in
set_option maxHeartbeats 800000 in
theorem Mark_calls (w : World) (pid : Int) (epoch : Int) (commit : Bool) (time : Int) :
    Calls Try.prog 13 #[.int .i64 pid, .int .i64 epoch, .bool commit, .int .i64 time] w fun e w' => e = .returned (.agg (btC ⟨0, pid, epoch, 0, if commit then 2 else 3, time, []⟩ none 0)) ∧ Ext w w' := by
  obtain ⟨h1, h2, h3, h4⟩ := two_new w (.cells (btC btNone none 0) 24) (.cells (btC ⟨0, pid, epoch, 0, 3, time, []⟩ none 0) 24)
  unfold btC btNone at h1 h2 h3 h4
  simp only [List.length_nil] at h1 h2 h3 h4
  cases commit with
  | true =>
    go_enter Try.func13, Try.ntmps13
    go_upto_if 14 with fail
    generalize (w.alloc _).alloc _ = w2 at *
    go_wp2_with (first
      | (refine gate_op (p := .store 3 (.tmp 15) (.const (.int .i64 2))) rfl ?_; go_must (refine put_cell rfl 3 (.tmp 15) (.const (.int .i64 2)) rfl (w.heap.size + 1) 4 (.int .i64 2) rfl rfl rfl _ _ h2 size_int (show 4 < 7 by decide) ?_; intro w3 hp3))
      | (refine gate_op (p := .load 24 (.tmp 9)) rfl ?_; go_must (refine wpList_load_row rfl 24 (.tmp 9) rfl (w.heap.size + 1) rfl _ (btC ⟨0, pid, epoch, 0, 2, time, []⟩ none 0) (0, 0) _ hp3.obj Try.underlying24 rfl size_bt ?_))
      | (refine gate_op (p := .store 24 (.tmp 8) (.tmp 16)) rfl ?_; go_must (refine put_row rfl 24 (.tmp 8) (.tmp 16) rfl w.heap.size (btC ⟨0, pid, epoch, 0, 2, time, []⟩ none 0) rfl rfl _ _ ((hp3.block w.heap.size (by omega)).trans h1) size_bt rfl (btC_one _ _ _) ?_; intro wf hpf)))
    refine bodyPost_ret (results_cell_row rfl _ _ w.heap.size _ _ _ _ rfl hpf.obj Try.underlying24 rfl size_bt) rfl ?_
    exact ⟨rfl, hpf.below (hp3.below h3 (by omega)) (Nat.le_refl _)⟩
  | false =>
    go_enter Try.func13, Try.ntmps13
    go_upto_if 14 with fail
    generalize (w.alloc _).alloc _ = w2 at *
    go_wp2_with (first
      | (refine gate_op (p := .load 24 (.tmp 9)) rfl ?_; go_must (refine wpList_load_row rfl 24 (.tmp 9) rfl (w.heap.size + 1) rfl _ (btC ⟨0, pid, epoch, 0, 3, time, []⟩ none 0) (0, 0) _ h2 Try.underlying24 rfl size_bt ?_))
      | (refine gate_op (p := .store 24 (.tmp 8) (.tmp 16)) rfl ?_; go_must (refine put_row rfl 24 (.tmp 8) (.tmp 16) rfl w.heap.size (btC ⟨0, pid, epoch, 0, 3, time, []⟩ none 0) rfl rfl _ _ h1 size_bt rfl (btC_one _ _ _) ?_; intro wf hpf)))
    refine bodyPost_ret (results_cell_row rfl _ _ w.heap.size _ _ _ _ rfl hpf.obj Try.underlying24 rfl size_bt) rfl ?_
    exact ⟨rfl, hpf.below h3 (Nat.le_refl _)⟩
def nextB (b : BtM) : Int := if validE b = 0 then b.base + (spanN b : Nat) else 0
set_option maxRecDepth 8000 in
set_option maxHeartbeats 1600000 in
theorem Next_calls (w : World) (B : Nat) (hB : B ≤ w.heap.size) (b : BtM) (A : Option Addr) (c : Nat) (h : BtAt w B b A c) :
    Calls Try.prog 25 #[.agg (btC b A c)] w fun e w' => e = .returned (.int .i64 (nextB b)) ∧ Ext w w' := by
  have Hv := Lib.hid (fun W (hE : Ext w W) => Valid_calls W B (Nat.le_trans hB hE.size) b A c (h.below (Below.mono hE hB)))
  have Hs := Lib.hid (fun W => Span_calls W b A c)
  have HE := Lib.hid (Ext.alloc w (.cells (btC b A c) 24))
  have Hp := Lib.hid (BtObj.new w b A b.l.length c)
  have hnx : nextB b = if validE b = 0 then b.base + (spanN b : Nat) else 0 := rfl
  have hfine : validE b = 0 → 0 ≤ b.base ∧ b.base ≤ 1099511627776 ∧ spanN b ≤ 65 := fun h0 => by
    have hf := (validE_iff b).1 h0
    refine ⟨hf.nums.base.1, hf.nums.base.2, ?_⟩
    have := hf.len
    unfold spanN
    split <;> omega
  have Hfine := Lib.hid hfine
  have Hnx := Lib.hid hnx
  clear h hnx hfine
  generalize nextB b = nx at *
  generalize validE b = v at *
  generalize spanN b = sp at *
  unfold btC at *
  generalize b.l.length = n at *
  go_enter Try.func25, Try.ntmps25
  go_upto_region 1 with fail
  generalize Value.agg #[.int .i64 b.base, .int .i64 b.pid, .int .i64 b.epoch, .int .i64 b.seq, .int .i64 b.kind, .int .i64 b.time, .slice A n c] = av
  generalize w.alloc (.cells #[.int .i64 b.base, .int .i64 b.pid, .int .i64 b.epoch, .int .i64 b.seq, .int .i64 b.kind, .int .i64 b.time, .slice A n c] 24) = w1 at *
  obtain ⟨k0, k1, k2, k3, k4, k5, k6⟩ := Hp.out.cells
  go_wp2_with fail
  refine (Hv.out w1 HE.out).mono ?_
  rintro e w2 ⟨rfl, hE2⟩
  clear k0 k1 k2 k3 k4 k5 k6
  have hE2' := Ext.trans _ _ _ HE.out hE2
  by_cases hv : v = 0
  · subst hv
    obtain ⟨f1, f2, f3⟩ := Hfine.out rfl
    have hnx := Hnx.out
    rw [if_pos rfl] at hnx
    have Hnx2 := Lib.hid hnx
    clear hnx Hnx
    have kw : IntKind.i64.wrap (b.base + (sp : Int)) = b.base + (sp : Int) := IntWalk.i64_in _ (by omega)
    have Hp2 := Lib.hid (fun W (hE : Ext w2 W) => Hp.out.ext (Ext.trans _ _ _ hE2 hE))
    go_upto_region 3 with fail
    refine wp_region_steps [.eq (.pointer (some ⟨w.heap.size, 0, none⟩)), .eq (.int .i64 b.base), .eq (.agg #[.int .i64 b.base, .int .i64 b.pid, .int .i64 b.epoch, .int .i64 b.seq, .int .i64 b.kind, .int .i64 b.time, .slice A n c]), .eq (.int .i64 (sp : Nat)), .eq (.int .i64 (b.base + (sp : Nat))), .eq (.int .i64 (b.base + (sp : Nat)))] (by kernel_rfl) (by kernel_rfl) (all_dst (by kernel_rfl)) ?_ ?_
    · refine ⟨?_, ?_, ?_, ?_, ?_, ?_, trivial⟩
      · intro S W K hE hf hd hK
        have f1 : S.tmps.getD 1 undef = .pointer (some ⟨w.heap.size, 0, none⟩) := hf 1 (by kernel_rfl)
        refine want_free rfl ?_
        rw [Array.getD_eq_getD_getElem?] at f1
        go_simp
        exact hK _ _ (Ext.refl _) (fun _ => rfl)
      · intro S W K hE hf hd hK
        have d6 : S.tmps.getD 6 undef = (.pointer (some ⟨w.heap.size, 0, none⟩)) := hd 0 _ rfl (by kernel_rfl)
        refine want_free rfl ?_
        rw [Array.getD_eq_getD_getElem?] at d6
        obtain ⟨k0, k1, k2, k3, k4, k5, k6⟩ := (Hp2.out W hE).cells
        go_simp
        exact hK _ _ (Ext.refl _) (fun _ => rfl)
      · intro S W K hE hf hd hK
        have f1 : S.tmps.getD 1 undef = .pointer (some ⟨w.heap.size, 0, none⟩) := hf 1 (by kernel_rfl)
        refine want_free rfl ?_
        rw [Array.getD_eq_getD_getElem?] at f1
        obtain ⟨k0, k1, k2, k3, k4, k5, k6⟩ := (Hp2.out W hE).cells
        go_simp
        exact hK _ _ (Ext.refl _) (fun _ => rfl)
      · intro S W K hE hf hd hK
        have d8 : S.tmps.getD 8 undef = (.agg #[.int .i64 b.base, .int .i64 b.pid, .int .i64 b.epoch, .int .i64 b.seq, .int .i64 b.kind, .int .i64 b.time, .slice A n c]) := hd 2 _ rfl (by kernel_rfl)
        refine want_free rfl ?_
        rw [Array.getD_eq_getD_getElem?] at d8
        go_simp
        refine (Hs.out W).mono ?_
        rintro e W' ⟨rfl, hb⟩
        exact hK _ _ hb (fun _ => rfl)
      · intro S W K hE hf hd hK
        have d7 : S.tmps.getD 7 undef = (.int .i64 b.base) := hd 1 _ rfl (by kernel_rfl)
        have d9 : S.tmps.getD 9 undef = (.int .i64 (sp : Nat)) := hd 3 _ rfl (by kernel_rfl)
        refine want_free rfl ?_
        rw [Array.getD_eq_getD_getElem?] at d7 d9
        go_simp
        exact hK _ _ (Ext.refl _) (fun _ => rfl)
      · intro S W K hE hf hd hK
        have d10 : S.tmps.getD 10 undef = (.int .i64 (b.base + (sp : Nat))) := hd 4 _ rfl (by kernel_rfl)
        refine want_free rfl ?_
        rw [Array.getD_eq_getD_getElem?] at d10
        go_simp
        exact hK _ _ (Ext.refl _) (fun _ => rfl)
    · intro vs W hE hV
      have v0 : vs 0 = (.pointer (some ⟨w.heap.size, 0, none⟩)) := hV 0 _ rfl (fun h => by cases h)
      have v1 : vs 1 = (.int .i64 b.base) := hV 1 _ rfl (fun h => by cases h)
      have v2 : vs 2 = (.agg #[.int .i64 b.base, .int .i64 b.pid, .int .i64 b.epoch, .int .i64 b.seq, .int .i64 b.kind, .int .i64 b.time, .slice A n c]) := hV 2 _ rfl (fun h => by cases h)
      have v3 : vs 3 = (.int .i64 (sp : Nat)) := hV 3 _ rfl (fun h => by cases h)
      have v4 : vs 4 = (.int .i64 (b.base + (sp : Nat))) := hV 4 _ rfl (fun h => by cases h)
      have v5 : vs 5 = (.int .i64 (b.base + (sp : Nat))) := hV 5 _ rfl (fun h => by cases h)
      clear hV
      set_option maxRecDepth 100000 in simp only [putAll, List.map_cons, List.map_nil, List.length_cons, List.length_nil, Nat.reduceAdd, List.range_succ, List.range_zero, List.nil_append, List.cons_append]
      set_option maxRecDepth 100000 in go_simp
      go_wp2
      go_ret
      exact ⟨ret_i64 (by rw [Hnx2.out]), Ext.trans _ _ _ hE2' hE⟩
  · have hd : decide (v = 0) = false := decide_eq_false hv
    go_wp2
    go_ret
    exact ⟨ret_i64 (by rw [Hnx.out, if_neg hv]), hE2'⟩
set_option maxRecDepth 8000 in
set_option maxHeartbeats 800000 in
theorem Size_calls (w : World) (B : Nat) (hB : B ≤ w.heap.size) (b : BtM) (A : Option Addr) (c : Nat) (h : BtAt w B b A c) :
    Calls Try.prog 26 #[.agg (btC b A c)] w fun e w' => e = .returned (.int .i64 ((encOf b).length : Nat)) ∧ Ext w w' := by
  have HE := Lib.hid (Ext.alloc w (.cells (btC b A c) 24))
  have Hv := Lib.hid (Encode_calls _ B (Nat.le_trans hB HE.out.size) b A c (h.below (Below.mono HE.out hB)))
  have Hp := Lib.hid (BtObj.new w b A b.l.length c)
  have Hbad := Lib.hid (show validE b ≠ 0 → (encOf b).length = 0 from fun h => by unfold encOf; rw [if_neg h]; rfl)
  clear h
  unfold EncPost at Hv
  generalize encOf b = L at *
  generalize validE b = v at *
  unfold btC at *
  go_enter Try.func26, Try.ntmps26
  go_upto_region 1 with fail
  generalize Value.agg #[.int .i64 b.base, .int .i64 b.pid, .int .i64 b.epoch, .int .i64 b.seq, .int .i64 b.kind, .int .i64 b.time, .slice A b.l.length c] = av
  generalize w.alloc (.cells #[.int .i64 b.base, .int .i64 b.pid, .int .i64 b.epoch, .int .i64 b.seq, .int .i64 b.kind, .int .i64 b.time, .slice A b.l.length c] 24) = w1 at *
  obtain ⟨k0, k1, k2, k3, k4, k5, k6⟩ := Hp.out.cells
  go_wp2_with fail
  refine Hv.out.mono ?_
  rintro e w2 ⟨ve, rfl, ho, hE2⟩
  clear k0 k1 k2 k3 k4 k5 k6
  have hE2' := Ext.trans _ _ _ HE.out hE2
  obtain ⟨A2, c2, e2, _, _⟩ := ho.slice
  subst e2
  by_cases hv : v = 0
  · subst hv
    go_wp2
    go_ret
    exact ⟨rfl, hE2'⟩
  · have hd : decide (v = 0) = false := decide_eq_false hv
    have hb := Lib.hid (Hbad.out hv)
    go_wp2
    go_ret
    exact ⟨ret_i64 (by rw [hb.out]; rfl), hE2'⟩
set_option maxRecDepth 8000 in
set_option maxHeartbeats 4000000 in
theorem RSpan_calls (w : World) (b : BtM) (A : Option Addr) (c : Nat) :
    Calls Try.prog 24 #[.agg (btC b A c)] w fun e w' => e = .returned (.int .i64 (spanN b : Nat)) ∧ Ext w w' := by
  have Hmk := Lib.hid (fun W => Rmark_calls W b A c)
  unfold spanN
  generalize markB b = mk at *
  unfold btC at *
  generalize b.l.length = n at *
  have HE := Lib.hid (Ext.alloc w (.cells #[.int .i64 b.base, .int .i64 b.pid, .int .i64 b.epoch, .int .i64 b.seq, .int .i64 b.kind, .int .i64 b.time, .slice A n c] 24))
  have Hp := Lib.hid (BtObj.new w b A n c)
  cases mk
  all_goals
    go_enter Try.func24, Try.ntmps24
    go_upto_region 1 with fail
    generalize w.alloc (.cells #[.int .i64 b.base, .int .i64 b.pid, .int .i64 b.epoch, .int .i64 b.seq, .int .i64 b.kind, .int .i64 b.time, .slice A n c] 24) = w1 at *
    obtain ⟨k0, k1, k2, k3, k4, k5, k6⟩ := Hp.out.cells
    go_wp2_with fail
    refine (Hmk.out w1).mono ?_
    rintro e w2 ⟨rfl, hE2⟩
    obtain ⟨l0, l1, l2, l3, l4, l5, l6⟩ := (Hp.out.ext hE2).cells
    go_wp2
    go_ret
    exact ⟨rfl, Ext.trans _ _ _ HE.out hE2⟩
end Go.Proofs.Ytaomhedjamnloaa
