/- RecValid: the walk of the law. -/
import Derived.Test.YtaomhedjamnloaaRecK
import Derived.Test.YtaomhedjamnloaaRecJ
import Derived.Test.YtaomhedjamnloaaRecCut
set_option linter.unusedVariables false
set_option linter.unusedSimpArgs false
namespace Go.Proofs.Ytaomhedjamnloaa
open Go Go.RowKit

set_option maxRecDepth 8000 in
set_option maxHeartbeats 1600000 in
theorem RecValid_calls (b0 : BtM) (A0 : Option Addr) (c0 : Nat) (w : World) (h : BtAt w w.heap.size b0 A0 c0) :
    Calls Try.prog 5 #[.agg (btC b0 A0 c0)] w fun e w' => e = .returned (.bool true) ∧ Below w.heap.size w w' := by
  obtain ⟨h1, h2, h3⟩ := one_new w (.cells (btC b0 A0 c0) 24)
  have Hcut := Lib.hid (cut3_calls _ w.heap.size (by omega) b0 A0 c0 (h.below h2))
  clear h
  go_enter Try.func5, Try.ntmps5
  unfold btC at *
  go_upto_region 1 with fail
  generalize w.alloc _ = w1 at *
  have k0 := (cell_of h1 0).trans rfl
  have k1 := (cell_of h1 1).trans rfl
  have k2 := (cell_of h1 2).trans rfl
  have k3 := (cell_of h1 3).trans rfl
  have k4 := (cell_of h1 4).trans rfl
  have k5 := (cell_of h1 5).trans rfl
  have k6 := (cell_of h1 6).trans rfl
  go_wp2_with fail
  refine Hcut.out.mono ?_
  rintro e w2 ⟨b, hok, A, c, rfl, ho, hE2⟩
  have hs2 := hE2.size
  have h12 := (hE2.block w.heap.size (by omega)).trans h1
  clear k0 k1 k2 k3 k4 k5 k6
  go_upto_region 2 with (refine gate_op (p := .store 24 (.tmp 1) (.tmp 6)) rfl ?_; go_must (refine put_row rfl 24 (.tmp 1) (.tmp 6) rfl w.heap.size (btC b A c) rfl rfl _ _ h12 size_bt rfl (btC_one _ _ _) ?_; intro w3 hp3))
  have ho3 := hp3.own ho (fun k hk => by have := (ho.at hk).1; omega) (fun _ h => h.elim)
  have hE3 := hp3.below (Ext.trans _ _ _ h2 hE2) (Nat.le_refl _)
  have hb3 := btAt_own hok.ok ho3
  have hp3s := hp3.size
  have Hj := Lib.hid (fun W (hE : Ext w3 W) => (⟨(hE.block w.heap.size (by omega)).trans hp3.obj⟩ : BtObj W w.heap.size b A b.l.length c))
  have HV := Lib.hid (fun W (hE : Ext w3 W) => Valid_calls W w3.heap.size hE.size b A c (hb3.below hE))
  have HR := Lib.hid (fun W (hE : Ext w3 W) => Rvalid_calls W w3.heap.size hE.size b A c (hb3.below hE))
  have HN := Lib.hid (fun W (hE : Ext w3 W) => Next_calls W w3.heap.size hE.size b A c (hb3.below hE))
  have HS := Lib.hid (fun W => Span_calls W b A c)
  have HT := Lib.hid (fun W => RSpan_calls W b A c)
  have hnx : nextB b = if validE b = 0 then b.base + (spanN b : Nat) else 0 := rfl
  have hfine : validE b = 0 → 0 ≤ b.base ∧ b.base ≤ 1099511627776 ∧ spanN b ≤ 65 := fun h0 => by
    have hf := (validE_iff b).1 h0
    refine ⟨hf.nums.base.1, hf.nums.base.2, ?_⟩
    have := hf.len
    unfold spanN
    split <;> omega
  have Hfine := Lib.hid hfine
  have Hnx := Lib.hid hnx
  clear hnx hfine Hcut h1 h12 hp3 ho ho3 hb3 hE2 h2
  generalize nextB b = nx at *
  generalize validE b = vE at *
  generalize spanN b = sp at *
  unfold btC at *
  generalize b.l.length = n at *
  obtain ⟨k0, k1, k2, k3, k4, k5, k6⟩ := (Hj.out w3 (Ext.refl _)).cells
  go_wp2_with fail
  refine (HR.out w3 (Ext.refl _)).mono ?_
  rintro e w4 ⟨rfl, hE4⟩
  clear k0 k1 k2 k3 k4 k5 k6
  go_upto_if 10 with fail
  go_cut [4] (fun v wx => v = .int .i64 nx ∧ Ext w3 wx)
  case first =>
    by_cases hv : vE = 0
    · subst hv
      obtain ⟨f1, f2, f3⟩ := Hfine.out rfl
      have Hn2 := Lib.hid (Hnx.out.trans (if_pos rfl))
      have kw : IntKind.i64.wrap (b.base + (sp : Int)) = b.base + (sp : Int) := IntWalk.i64_in _ (by omega)
      go_upto_region 5 with fail
      refine wp_region_steps [.eq (.pointer (some ⟨w.heap.size, 0, none⟩)), .eq (.int .i64 b.base), .eq (.agg #[.int .i64 b.base, .int .i64 b.pid, .int .i64 b.epoch, .int .i64 b.seq, .int .i64 b.kind, .int .i64 b.time, .slice A n c]), .eq (.int .i64 (sp : Nat)), .eq (.int .i64 (b.base + (sp : Nat))), .eq (.int .i64 (b.base + (sp : Nat)))] (by kernel_rfl) (by kernel_rfl) (all_dst (by kernel_rfl)) ?_ ?_
      · refine ⟨?_, ?_, ?_, ?_, ?_, ?_, trivial⟩
        · intro S W K hE hf hd hK
          have f1 : S.tmps.getD 1 undef = .pointer (some ⟨w.heap.size, 0, none⟩) := hf 1 (by kernel_rfl)
          refine want_free rfl ?_
          rw [Array.getD_eq_getD_getElem?] at f1
          go_simp
          exact hK _ _ (Ext.refl _) (fun _ => rfl)
        · intro S W K hE hf hd hK
          have d11 : S.tmps.getD 11 undef = (.pointer (some ⟨w.heap.size, 0, none⟩)) := hd 0 _ rfl (by kernel_rfl)
          refine want_free rfl ?_
          rw [Array.getD_eq_getD_getElem?] at d11
          obtain ⟨k0, k1, k2, k3, k4, k5, k6⟩ := (Hj.out W (Ext.trans _ _ _ hE4 hE)).cells
          go_simp
          exact hK _ _ (Ext.refl _) (fun _ => rfl)
        · intro S W K hE hf hd hK
          have f1 : S.tmps.getD 1 undef = .pointer (some ⟨w.heap.size, 0, none⟩) := hf 1 (by kernel_rfl)
          refine want_free rfl ?_
          rw [Array.getD_eq_getD_getElem?] at f1
          obtain ⟨k0, k1, k2, k3, k4, k5, k6⟩ := (Hj.out W (Ext.trans _ _ _ hE4 hE)).cells
          go_simp
          exact hK _ _ (Ext.refl _) (fun _ => rfl)
        · intro S W K hE hf hd hK
          have d13 : S.tmps.getD 13 undef = (.agg #[.int .i64 b.base, .int .i64 b.pid, .int .i64 b.epoch, .int .i64 b.seq, .int .i64 b.kind, .int .i64 b.time, .slice A n c]) := hd 2 _ rfl (by kernel_rfl)
          refine want_free rfl ?_
          rw [Array.getD_eq_getD_getElem?] at d13
          go_simp
          refine (HT.out W).mono ?_
          rintro e W' ⟨rfl, hb⟩
          exact hK _ _ hb (fun _ => rfl)
        · intro S W K hE hf hd hK
          have d12 : S.tmps.getD 12 undef = (.int .i64 b.base) := hd 1 _ rfl (by kernel_rfl)
          have d14 : S.tmps.getD 14 undef = (.int .i64 (sp : Nat)) := hd 3 _ rfl (by kernel_rfl)
          refine want_free rfl ?_
          rw [Array.getD_eq_getD_getElem?] at d12 d14
          go_simp
          exact hK _ _ (Ext.refl _) (fun _ => rfl)
        · intro S W K hE hf hd hK
          have d15 : S.tmps.getD 15 undef = (.int .i64 (b.base + (sp : Nat))) := hd 4 _ rfl (by kernel_rfl)
          refine want_free rfl ?_
          rw [Array.getD_eq_getD_getElem?] at d15
          go_simp
          exact hK _ _ (Ext.refl _) (fun _ => rfl)
      · intro vs W hE hV
        have v0 : vs 0 = (.pointer (some ⟨w.heap.size, 0, none⟩)) := hV 0 _ rfl (fun h => by cases h)
        have v1 : vs 1 = (.int .i64 b.base) := hV 1 _ rfl (fun h => by cases h)
        have v2 : vs 2 = (.agg #[.int .i64 b.base, .int .i64 b.pid, .int .i64 b.epoch, .int .i64 b.seq, .int .i64 b.kind, .int .i64 b.time, .slice A n c]) := hV 2 _ rfl (fun h => by cases h)
        have v3 : vs 3 = (.int .i64 (sp : Nat)) := hV 3 _ rfl (fun h => by cases h)
        have v4 : vs 4 = (.int .i64 (b.base + (sp : Nat))) := hV 4 _ rfl (fun h => by cases h)
        have v5 : vs 5 = (.int .i64 (b.base + (sp : Nat))) := hV 5 _ rfl (fun h => by cases h)
        clear hV
        set_option maxRecDepth 100000 in simp only [putAll, List.map_cons, List.map_nil, List.length_cons, List.length_nil, Nat.reduceAdd, List.range_succ, List.range_zero, List.nil_append, List.cons_append]
        set_option maxRecDepth 100000 in go_simp
        rename_i J K' hK' hJ hx1
        refine hK' _ _ (Met.intro (hJ _ _ ?_))
        repeat apply Exists.intro
        refine ⟨?_, rfl⟩
        exact ⟨by rw [Hn2.out], Ext.trans _ _ _ hE4 hE⟩
    · have hd : decide (vE = 0) = false := decide_eq_false hv
      have hd2 : (vE == 0) = false := by rw [beq_eq_false_iff_ne]; exact hv
      have Hn2 := Lib.hid (Hnx.out.trans (if_neg hv))
      clear hv
      go_wp2
      go_meet
      exact ⟨by rw [Hn2.out], hE4⟩
  case rest =>
    obtain ⟨rfl, hE5⟩ := hcut
    go_upto_region 6 with fail
    refine wp_region_steps [.eq (.agg #[.int .i64 b.base, .int .i64 b.pid, .int .i64 b.epoch, .int .i64 b.seq, .int .i64 b.kind, .int .i64 b.time, .slice A n c]), .eq (.int .i64 vE), .eq (.int .i64 vE), .eq (.bool true), .eq (.bool true), .eq (.agg #[.int .i64 b.base, .int .i64 b.pid, .int .i64 b.epoch, .int .i64 b.seq, .int .i64 b.kind, .int .i64 b.time, .slice A n c]), .eq (.int .i64 (sp : Nat)), .eq (.agg #[.int .i64 b.base, .int .i64 b.pid, .int .i64 b.epoch, .int .i64 b.seq, .int .i64 b.kind, .int .i64 b.time, .slice A n c]), .eq (.int .i64 (sp : Nat)), .eq (.bool true), .eq (.bool true), .eq (.bool true), .eq (.agg #[.int .i64 b.base, .int .i64 b.pid, .int .i64 b.epoch, .int .i64 b.seq, .int .i64 b.kind, .int .i64 b.time, .slice A n c]), .eq (.int .i64 nx), .eq (.int .i64 nx), .eq (.bool true), .eq (.bool true), .eq (.bool true), .eq (.bool true), .eq (.bool true), .eq (.bool true)] (by kernel_rfl) (by kernel_rfl) (all_dst (by kernel_rfl)) ?_ ?_
    · refine ⟨?_, ?_, ?_, ?_, ?_, ?_, ?_, ?_, ?_, ?_, ?_, ?_, ?_, ?_, ?_, ?_, ?_, ?_, ?_, ?_, ?_, trivial⟩
      · intro S W K hE hf hd hK
        have f1 : S.tmps.getD 1 undef = .pointer (some ⟨w.heap.size, 0, none⟩) := hf 1 (by kernel_rfl)
        refine want_free rfl ?_
        rw [Array.getD_eq_getD_getElem?] at f1
        obtain ⟨k0, k1, k2, k3, k4, k5, k6⟩ := (Hj.out W (Ext.trans _ _ _ hE5 hE)).cells
        go_simp
        exact hK _ _ (Ext.refl _) (fun _ => rfl)
      · intro S W K hE hf hd hK
        have d16 : S.tmps.getD 16 undef = (.agg #[.int .i64 b.base, .int .i64 b.pid, .int .i64 b.epoch, .int .i64 b.seq, .int .i64 b.kind, .int .i64 b.time, .slice A n c]) := hd 0 _ rfl (by kernel_rfl)
        refine want_free rfl ?_
        rw [Array.getD_eq_getD_getElem?] at d16
        go_simp
        refine (HV.out W (Ext.trans _ _ _ hE5 hE)).mono ?_
        rintro e W' ⟨rfl, hb⟩
        exact hK _ _ hb (fun _ => rfl)
      · intro S W K hE hf hd hK
        have f3 : S.tmps.getD 3 undef = .int .i64 vE := hf 3 (by kernel_rfl)
        refine want_free rfl ?_
        rw [Array.getD_eq_getD_getElem?] at f3
        go_simp
        exact hK _ _ (Ext.refl _) (fun _ => rfl)
      · intro S W K hE hf hd hK
        have d17 : S.tmps.getD 17 undef = (.int .i64 vE) := hd 1 _ rfl (by kernel_rfl)
        have d18 : S.tmps.getD 18 undef = (.int .i64 vE) := hd 2 _ rfl (by kernel_rfl)
        refine want_free rfl ?_
        rw [Array.getD_eq_getD_getElem?] at d17 d18
        go_simp
        exact hK _ _ (Ext.refl _) (fun _ => rfl)
      · intro S W K hE hf hd hK
        have d19 : S.tmps.getD 19 undef = (.bool true) := hd 3 _ rfl (by kernel_rfl)
        refine want_free rfl ?_
        rw [Array.getD_eq_getD_getElem?] at d19
        go_simp
        exact hK _ _ (Ext.refl _) (fun _ => rfl)
      · intro S W K hE hf hd hK
        have f1 : S.tmps.getD 1 undef = .pointer (some ⟨w.heap.size, 0, none⟩) := hf 1 (by kernel_rfl)
        have d20 : S.tmps.getD 20 undef = (.bool true) := hd 4 _ rfl (by kernel_rfl)
        refine want_then (t := 20) d20 rfl rfl rfl ?_
        rw [Array.getD_eq_getD_getElem?] at f1 d20
        obtain ⟨k0, k1, k2, k3, k4, k5, k6⟩ := (Hj.out W (Ext.trans _ _ _ hE5 hE)).cells
        go_simp
        exact hK _ _ (Ext.refl _) (fun _ => rfl)
      · intro S W K hE hf hd hK
        have d21 : S.tmps.getD 21 undef = (.agg #[.int .i64 b.base, .int .i64 b.pid, .int .i64 b.epoch, .int .i64 b.seq, .int .i64 b.kind, .int .i64 b.time, .slice A n c]) := hd 5 _ rfl (by kernel_rfl)
        have d20 : S.tmps.getD 20 undef = (.bool true) := hd 4 _ rfl (by kernel_rfl)
        refine want_then (t := 20) d20 rfl rfl rfl ?_
        rw [Array.getD_eq_getD_getElem?] at d21 d20
        go_simp
        refine (HS.out W).mono ?_
        rintro e W' ⟨rfl, hb⟩
        exact hK _ _ hb (fun _ => rfl)
      · intro S W K hE hf hd hK
        have f1 : S.tmps.getD 1 undef = .pointer (some ⟨w.heap.size, 0, none⟩) := hf 1 (by kernel_rfl)
        have d20 : S.tmps.getD 20 undef = (.bool true) := hd 4 _ rfl (by kernel_rfl)
        refine want_then (t := 20) d20 rfl rfl rfl ?_
        rw [Array.getD_eq_getD_getElem?] at f1 d20
        obtain ⟨k0, k1, k2, k3, k4, k5, k6⟩ := (Hj.out W (Ext.trans _ _ _ hE5 hE)).cells
        go_simp
        exact hK _ _ (Ext.refl _) (fun _ => rfl)
      · intro S W K hE hf hd hK
        have d23 : S.tmps.getD 23 undef = (.agg #[.int .i64 b.base, .int .i64 b.pid, .int .i64 b.epoch, .int .i64 b.seq, .int .i64 b.kind, .int .i64 b.time, .slice A n c]) := hd 7 _ rfl (by kernel_rfl)
        have d20 : S.tmps.getD 20 undef = (.bool true) := hd 4 _ rfl (by kernel_rfl)
        refine want_then (t := 20) d20 rfl rfl rfl ?_
        rw [Array.getD_eq_getD_getElem?] at d23 d20
        go_simp
        refine (HT.out W).mono ?_
        rintro e W' ⟨rfl, hb⟩
        exact hK _ _ hb (fun _ => rfl)
      · intro S W K hE hf hd hK
        have d22 : S.tmps.getD 22 undef = (.int .i64 (sp : Nat)) := hd 6 _ rfl (by kernel_rfl)
        have d24 : S.tmps.getD 24 undef = (.int .i64 (sp : Nat)) := hd 8 _ rfl (by kernel_rfl)
        have d20 : S.tmps.getD 20 undef = (.bool true) := hd 4 _ rfl (by kernel_rfl)
        refine want_then (t := 20) d20 rfl rfl rfl ?_
        rw [Array.getD_eq_getD_getElem?] at d22 d24 d20
        go_simp
        exact hK _ _ (Ext.refl _) (fun _ => rfl)
      · intro S W K hE hf hd hK
        have d20 : S.tmps.getD 20 undef = (.bool true) := hd 4 _ rfl (by kernel_rfl)
        have d25 : S.tmps.getD 25 undef = (.bool true) := hd 9 _ rfl (by kernel_rfl)
        refine want_free rfl ?_
        rw [Array.getD_eq_getD_getElem?] at d20 d25
        go_simp
        exact hK _ _ (Ext.refl _) (fun _ => rfl)
      · intro S W K hE hf hd hK
        have d26 : S.tmps.getD 26 undef = (.bool true) := hd 10 _ rfl (by kernel_rfl)
        refine want_free rfl ?_
        rw [Array.getD_eq_getD_getElem?] at d26
        go_simp
        exact hK _ _ (Ext.refl _) (fun _ => rfl)
      · intro S W K hE hf hd hK
        have f1 : S.tmps.getD 1 undef = .pointer (some ⟨w.heap.size, 0, none⟩) := hf 1 (by kernel_rfl)
        have d27 : S.tmps.getD 27 undef = (.bool true) := hd 11 _ rfl (by kernel_rfl)
        refine want_then (t := 27) d27 rfl rfl rfl ?_
        rw [Array.getD_eq_getD_getElem?] at f1 d27
        obtain ⟨k0, k1, k2, k3, k4, k5, k6⟩ := (Hj.out W (Ext.trans _ _ _ hE5 hE)).cells
        go_simp
        exact hK _ _ (Ext.refl _) (fun _ => rfl)
      · intro S W K hE hf hd hK
        have d28 : S.tmps.getD 28 undef = (.agg #[.int .i64 b.base, .int .i64 b.pid, .int .i64 b.epoch, .int .i64 b.seq, .int .i64 b.kind, .int .i64 b.time, .slice A n c]) := hd 12 _ rfl (by kernel_rfl)
        have d27 : S.tmps.getD 27 undef = (.bool true) := hd 11 _ rfl (by kernel_rfl)
        refine want_then (t := 27) d27 rfl rfl rfl ?_
        rw [Array.getD_eq_getD_getElem?] at d28 d27
        go_simp
        refine (HN.out W (Ext.trans _ _ _ hE5 hE)).mono ?_
        rintro e W' ⟨rfl, hb⟩
        exact hK _ _ hb (fun _ => rfl)
      · intro S W K hE hf hd hK
        have f4 : S.tmps.getD 4 undef = .int .i64 nx := hf 4 (by kernel_rfl)
        have d27 : S.tmps.getD 27 undef = (.bool true) := hd 11 _ rfl (by kernel_rfl)
        refine want_then (t := 27) d27 rfl rfl rfl ?_
        rw [Array.getD_eq_getD_getElem?] at f4 d27
        go_simp
        exact hK _ _ (Ext.refl _) (fun _ => rfl)
      · intro S W K hE hf hd hK
        have d29 : S.tmps.getD 29 undef = (.int .i64 nx) := hd 13 _ rfl (by kernel_rfl)
        have d30 : S.tmps.getD 30 undef = (.int .i64 nx) := hd 14 _ rfl (by kernel_rfl)
        have d27 : S.tmps.getD 27 undef = (.bool true) := hd 11 _ rfl (by kernel_rfl)
        refine want_then (t := 27) d27 rfl rfl rfl ?_
        rw [Array.getD_eq_getD_getElem?] at d29 d30 d27
        go_simp
        exact hK _ _ (Ext.refl _) (fun _ => rfl)
      · intro S W K hE hf hd hK
        have d27 : S.tmps.getD 27 undef = (.bool true) := hd 11 _ rfl (by kernel_rfl)
        have d31 : S.tmps.getD 31 undef = (.bool true) := hd 15 _ rfl (by kernel_rfl)
        refine want_free rfl ?_
        rw [Array.getD_eq_getD_getElem?] at d27 d31
        go_simp
        exact hK _ _ (Ext.refl _) (fun _ => rfl)
      · intro S W K hE hf hd hK
        have d32 : S.tmps.getD 32 undef = (.bool true) := hd 16 _ rfl (by kernel_rfl)
        refine want_free rfl ?_
        rw [Array.getD_eq_getD_getElem?] at d32
        go_simp
        exact hK _ _ (Ext.refl _) (fun _ => rfl)
      · intro S W K hE hf hd hK
        have d33 : S.tmps.getD 33 undef = (.bool true) := hd 17 _ rfl (by kernel_rfl)
        refine want_then (t := 33) d33 rfl rfl rfl ?_
        rw [Array.getD_eq_getD_getElem?] at d33
        go_simp
        refine (awake3_calls W).mono ?_
        rintro e W' ⟨rfl, hb⟩
        exact hK _ _ hb (fun _ => rfl)
      · intro S W K hE hf hd hK
        have d33 : S.tmps.getD 33 undef = (.bool true) := hd 17 _ rfl (by kernel_rfl)
        have d34 : S.tmps.getD 34 undef = (.bool true) := hd 18 _ rfl (by kernel_rfl)
        refine want_free rfl ?_
        rw [Array.getD_eq_getD_getElem?] at d33 d34
        go_simp
        exact hK _ _ (Ext.refl _) (fun _ => rfl)
      · intro S W K hE hf hd hK
        have d35 : S.tmps.getD 35 undef = (.bool true) := hd 19 _ rfl (by kernel_rfl)
        refine want_free rfl ?_
        rw [Array.getD_eq_getD_getElem?] at d35
        go_simp
        exact hK _ _ (Ext.refl _) (fun _ => rfl)
    · intro vs W hE hV
      have v0 : vs 0 = (.agg #[.int .i64 b.base, .int .i64 b.pid, .int .i64 b.epoch, .int .i64 b.seq, .int .i64 b.kind, .int .i64 b.time, .slice A n c]) := hV 0 _ rfl (fun h => by cases h)
      have v1 : vs 1 = (.int .i64 vE) := hV 1 _ rfl (fun h => by cases h)
      have v2 : vs 2 = (.int .i64 vE) := hV 2 _ rfl (fun h => by cases h)
      have v3 : vs 3 = (.bool true) := hV 3 _ rfl (fun h => by cases h)
      have v4 : vs 4 = (.bool true) := hV 4 _ rfl (fun h => by cases h)
      have v5 : vs 5 = (.agg #[.int .i64 b.base, .int .i64 b.pid, .int .i64 b.epoch, .int .i64 b.seq, .int .i64 b.kind, .int .i64 b.time, .slice A n c]) := hV 5 _ rfl (fun h => by cases h)
      have v6 : vs 6 = (.int .i64 (sp : Nat)) := hV 6 _ rfl (fun h => by cases h)
      have v7 : vs 7 = (.agg #[.int .i64 b.base, .int .i64 b.pid, .int .i64 b.epoch, .int .i64 b.seq, .int .i64 b.kind, .int .i64 b.time, .slice A n c]) := hV 7 _ rfl (fun h => by cases h)
      have v8 : vs 8 = (.int .i64 (sp : Nat)) := hV 8 _ rfl (fun h => by cases h)
      have v9 : vs 9 = (.bool true) := hV 9 _ rfl (fun h => by cases h)
      have v10 : vs 10 = (.bool true) := hV 10 _ rfl (fun h => by cases h)
      have v11 : vs 11 = (.bool true) := hV 11 _ rfl (fun h => by cases h)
      have v12 : vs 12 = (.agg #[.int .i64 b.base, .int .i64 b.pid, .int .i64 b.epoch, .int .i64 b.seq, .int .i64 b.kind, .int .i64 b.time, .slice A n c]) := hV 12 _ rfl (fun h => by cases h)
      have v13 : vs 13 = (.int .i64 nx) := hV 13 _ rfl (fun h => by cases h)
      have v14 : vs 14 = (.int .i64 nx) := hV 14 _ rfl (fun h => by cases h)
      have v15 : vs 15 = (.bool true) := hV 15 _ rfl (fun h => by cases h)
      have v16 : vs 16 = (.bool true) := hV 16 _ rfl (fun h => by cases h)
      have v17 : vs 17 = (.bool true) := hV 17 _ rfl (fun h => by cases h)
      have v18 : vs 18 = (.bool true) := hV 18 _ rfl (fun h => by cases h)
      have v19 : vs 19 = (.bool true) := hV 19 _ rfl (fun h => by cases h)
      have v20 : vs 20 = (.bool true) := hV 20 _ rfl (fun h => by cases h)
      clear hV
      set_option maxRecDepth 100000 in simp only [putAll, List.map_cons, List.map_nil, List.length_cons, List.length_nil, Nat.reduceAdd, List.range_succ, List.range_zero, List.nil_append, List.cons_append]
      set_option maxRecDepth 100000 in go_simp
      go_wp2
      go_ret
      exact ⟨rfl, Ext.trans _ _ _ hE3 (Ext.trans _ _ _ hE5 hE)⟩
end Go.Proofs.Ytaomhedjamnloaa
