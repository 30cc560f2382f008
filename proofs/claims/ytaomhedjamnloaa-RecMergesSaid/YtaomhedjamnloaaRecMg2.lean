/- Contract: rec's Merge. -/
import Derived.Test.YtaomhedjamnloaaRecMg
import Derived.IntWalk
set_option linter.unusedVariables false
set_option linter.unusedSimpArgs false
namespace Go.Proofs.Ytaomhedjamnloaa
open Go Go.RowKit

theorem catL_len {l : List BtM} {m : Nat} (h : ∀ b ∈ l, b.l.length ≤ m) (k : Nat) : (catL (l.take k)).length ≤ k * m := by
  unfold catL
  induction l generalizing k with
  | nil => simp
  | cons x l ih =>
    cases k with
    | zero => simp
    | succ k =>
      have h1 := h x (List.mem_cons_self ..)
      have h2 := ih (fun y hy => h y (List.mem_cons_of_mem _ hy)) k
      rw [List.take_succ_cons, List.map_cons, List.flatten_cons, List.length_append, Nat.add_mul, Nat.one_mul]
      omega
theorem catL_le {l : List BtM} (hl : l.length ≤ 1000) (h : ∀ b ∈ l, b.l.length ≤ 1000) (k : Nat) : (catL (l.take k)).length ≤ 1000000 := by
  have e : l.take k = l.take (min k l.length) := by
    rcases Nat.le_total k l.length with h | h
    · rw [Nat.min_eq_left h]
    · rw [Nat.min_eq_right h, List.take_length, List.take_of_length_le h]
  rw [e]
  have := catL_len h (min k l.length)
  omega
def MergePost (w : World) (p : BtM × Int) (e : Ending) (w' : World) : Prop :=
  ∃ b A c er, e = .returned (.tuple #[.agg (btC b A c), .int .i64 er]) ∧ Own recK 54 w' w.heap.size (fun _ => False) (.slice A b.l.length c) b.l ∧ Ext w w' ∧ p = (b, er)
theorem merge_nil {w w' : World} {er : Int} {p : BtM × Int} (hE : Ext w w') (h : p = (btNone, er)) : MergePost w p (.returned (.tuple #[.agg #[.int .i64 0, .int .i64 0, .int .i64 0, .int .i64 0, .int .i64 0, .int .i64 0, .slice none 0 0], .int .i64 er])) w' :=
  ⟨btNone, none, 0, er, rfl, Own.nil _ _ _ _ _, hE, h⟩
set_option maxRecDepth 8000 in
set_option maxHeartbeats 4000000 in
theorem Merge_calls (w : World) (A : Option Addr) (c : Nat) (l : List BtM) (hc : l.length ≤ c) (hm : c ≤ maxLen) (hl : l.length ≤ 1000) (hb : ∀ b ∈ l, b.l.length ≤ 1000) (hr : Row btM w (fun k => k < w.heap.size) A l) :
    Calls Try.prog 28 #[.slice A l.length c] w (MergePost w (mergeB l)) := by
  obtain ⟨h2, hE2, hs2⟩ := one_new w (.cells (btC btNone none 0) 24)
  unfold btC btNone at h2 hE2 hs2
  simp only [List.length_nil] at h2 hE2 hs2
  have Hrow := Lib.hid (fun W (hE : Ext w W) => hr.belowF (fun _ h => h) hE)
  obtain ⟨Q, hQ⟩ : ∃ q, q = mergeB l := ⟨_, rfl⟩
  rw [← hQ]
  have HQ := Lib.hid hQ
  clear hQ hr
  go_enter Try.func28, Try.ntmps28
  go_upto_region 1 with fail
  generalize w.alloc _ = w2 at *
  by_cases h0 : l.length = 0
  · have hqn : Q = (btNone, 3) := by
      rw [HQ.out]
      unfold mergeB
      rw [if_pos h0]
    have Hqn := Lib.hid hqn
    have h0b : ((l.length : Int) == 0) = true := by rw [h0]; rfl
    clear hqn h0
    go_wp2_with (refine gate_op (p := .store 24 (.tmp 2) (.tmp 16)) rfl ?_; go_must (refine put_row rfl 24 (.tmp 2) (.tmp 16) rfl w.heap.size #[.int .i64 0, .int .i64 0, .int .i64 0, .int .i64 0, .int .i64 0, .int .i64 0, .slice none 0 0] rfl rfl _ _ h2 size_bt rfl (btC_one btNone none 0) ?_; intro wf hpf))
    refine bodyPost_ret (results_row2 rfl _ _ w.heap.size _ _ _ _ rfl hpf.obj Try.underlying24 rfl size_bt) rfl ?_
    exact merge_nil (hpf.below hE2 (Nat.le_refl _)) Hqn.out
  · have h0b : ((l.length : Int) == 0) = false := by rw [beq_eq_false_iff_ne]; omega
    have hpos : 0 < l.length := by omega
    clear h0
    go_upto_region 4 with fail
    go_loopw [19] (fun i wr => ∃ k : Nat, k ≤ l.length ∧ i = .int .i64 k ∧ Hid (firstE (l.take k) = 0) ∧ Ext w wr ∧ w.heap.size + 1 ≤ wr.heap.size ∧ wr.heap[w.heap.size]? = some (.cells #[.int .i64 0, .int .i64 0, .int .i64 0, .int .i64 0, .int .i64 0, .int .i64 0, .slice none 0 0] 24 (0, 0))) (fun i _ => l.length - (intOf i).toNat)
    case atStart => exact ⟨0, Nat.zero_le _, rfl, Lib.hid rfl, hE2, by omega, h2⟩
    case round =>
      obtain ⟨k, hk, rfl, Hf, hEr, hsr, h2r⟩ := hrel
      clear h2 hE2 hs2
      by_cases hlt : k < l.length
      · have hlti : (k : Int) < (l.length : Int) := by omega
        obtain ⟨ad, A', c', rfl, hfa, hcl, hok, hlc, hrow⟩ := bt_at (Hrow.out wr hEr) k hlt
        have Hat := Lib.hid (fun h h2 => @firstE_at l k hlt h h2)
        have Hsn := Lib.hid (fun h h2 => @firstE_snoc l k hlt h h2)
        have hbl := hb _ (List.getElem_mem hlt)
        generalize l[k] = b at *
        obtain ⟨c0, c1, c2, c3, c4, c5, c6⟩ := hcl
        go_upto_region 6 with (refine gate_op (p := .store 24 (.tmp 5) (.tmp 22)) rfl ?_; go_must (refine put_row rfl 24 (.tmp 5) (.tmp 22) rfl wr.heap.size (btC b A' c') rfl rfl _ _ (one_new _ _).1 size_bt rfl (btC_one _ _ _) ?_; intro w5 hp5; have hE5 : Ext wr w5 := hp5.below (one_new _ _).2.1 (Nat.le_refl _); have H5 := Lib.hid (And.intro hE5 hp5.obj); clear hE5 hp5))
        clear c0 c1 c2 c3 c4 c5 c6
        obtain ⟨hE5, hj5⟩ := H5.out
        have Hv := Lib.hid (Valid_calls w5 w.heap.size (by have := hE5.size; omega) b A' c' ⟨hok, hlc, hrow.belowF (fun _ h => Nat.lt_of_lt_of_le h hEr.size) hE5⟩)
        -- BEGIN
        unfold btC at hj5 Hv
        have k0 := (cell_of hj5 0).trans rfl
        have k1 := (cell_of hj5 1).trans rfl
        have k2 := (cell_of hj5 2).trans rfl
        have k3 := (cell_of hj5 3).trans rfl
        have k4 := (cell_of hj5 4).trans rfl
        have k5 := (cell_of hj5 5).trans rfl
        have k6 := (cell_of hj5 6).trans rfl
        go_wp2_with fail
        refine Hv.out.mono ?_
        rintro e w6 ⟨rfl, hE6⟩
        clear k0 k1 k2 k3 k4 k5 k6
        have hE56 := Ext.trans _ _ _ hE5 hE6
        have hE6w := Ext.trans _ _ _ hEr hE56
        have h2f := (hE56.block w.heap.size (by omega)).trans h2r
        by_cases hv : validE b = 0
        · rw [hv]
          have Hf2 := Lib.hid (Hsn.out Hf.out hv)
          have hs6 := hE56.size
          clear hv
          go_wp2
          go_roundw
          case rel => exact ⟨k + 1, hlt, by go_num, Hf2, hE6w, by omega, h2f⟩
          case measure => simp [intOf]; omega
        · have Hqn := Lib.hid (show Q = (btNone, validE b) from by rw [HQ.out, merge_bad hpos (by rw [Hat.out Hf.out hv]; exact hv), Hat.out Hf.out hv])
          have hd : decide (validE b = 0) = false := decide_eq_false hv
          have hd2 : (validE b == 0) = false := by rw [beq_eq_false_iff_ne]; exact hv
          have hd3 : (validE b != 0) = true := by simpa using hv
          generalize validE b = v at *
          clear hv
          go_wp2_with (refine gate_op (p := .store 24 (.tmp 2) (.tmp 27)) rfl ?_; go_must (refine put_row rfl 24 (.tmp 2) (.tmp 27) rfl w.heap.size #[.int .i64 0, .int .i64 0, .int .i64 0, .int .i64 0, .int .i64 0, .int .i64 0, .slice none 0 0] rfl rfl _ _ h2f size_bt rfl (btC_one btNone none 0) ?_; intro wf hpf))
          refine bodyPost_ret (results_row2 rfl _ _ w.heap.size _ _ _ _ rfl hpf.obj Try.underlying24 rfl size_bt) rfl ?_
          exact merge_nil (hpf.below hE6w (Nat.le_refl _)) Hqn.out
      · obtain rfl : k = l.length := by omega
        rw [List.take_length] at Hf
        by_cases h1 : l.length = 1
        · have h1b : ((l.length : Int) == 1) = true := by rw [h1]; rfl
          have Hqn := Lib.hid (show Q = (atB l 0, 0) from by rw [HQ.out, merge_one h1 Hf.out])
          obtain ⟨ad, A', c', rfl, hfa, hcl, hok, hlc, hrow⟩ := bt_at0 (Hrow.out wr hEr) hpos
          have hbl := hb _ (List.getElem_mem hpos)
          have h0e := atB_eq hpos
          rw [h0e] at Hqn
          generalize l[0] = b at *
          obtain ⟨c0, c1, c2, c3, c4, c5, c6⟩ := hcl
          have Hcp := Lib.hid (Copy_calls wr w.heap.size (by omega) b A' c' ⟨hok, hlc, hrow⟩ (by omega))
          unfold btC at Hcp
          clear h0e h1
          go_wp2_with fail
          refine Hcp.out.mono ?_
          rintro e w7 ⟨A7, c7, rfl, ho7, hE7⟩
          have h2f := (hE7.block w.heap.size (by omega)).trans h2r
          have hE7w := Ext.trans _ _ _ hEr hE7
          go_wp2_with (refine gate_op (p := .store 24 (.tmp 2) (.tmp 36)) rfl ?_; go_must (refine put_row rfl 24 (.tmp 2) (.tmp 36) rfl w.heap.size (btC b A7 c7) rfl rfl _ _ h2f size_bt rfl (btC_one _ _ _) ?_; intro wf hpf))
          refine bodyPost_ret (results_row2 rfl _ _ w.heap.size _ _ _ _ rfl hpf.obj Try.underlying24 rfl size_bt) rfl ?_
          exact ⟨b, A7, c7, 0, rfl, (hpf.own ho7 (fun k hk => by have := (ho7.at hk).1; omega) (fun _ h => h.elim)).lower (by omega), hpf.below hE7w (Nat.le_refl _), Hqn.out⟩
        · have h1b : ((l.length : Int) == 1) = false := by rw [beq_eq_false_iff_ne]; omega
          have h1l : 1 < l.length := by omega
          obtain ⟨ad, A0, c0', rfl, hfa, hcl, hok, hlc, hrow⟩ := bt_at0 (Hrow.out wr hEr) hpos
          have Hcat1 := Lib.hid (show ((catL (l.take 1)).length : Int) = (l[0].l.length : Int) from by rw [catL_one hpos, atB_eq hpos])
          obtain ⟨c0, c1, c2, c3, c4, c5, c6⟩ := hcl
          clear h1
          go_upto_region 14 with fail
          rw [← Hcat1.out]
          clear c0 c1 c2 c3 c4 c5 c6
          go_loopw [7, 8] (fun n i wr2 => ∃ k : Nat, 1 ≤ k ∧ k ≤ l.length ∧ i = .int .i64 k ∧ n = .int .i64 ((catL (l.take k)).length : Nat) ∧ Hid (chainTo l k) ∧ Ext w wr2 ∧ w.heap.size + 1 ≤ wr2.heap.size ∧ wr2.heap[w.heap.size]? = some (.cells #[.int .i64 0, .int .i64 0, .int .i64 0, .int .i64 0, .int .i64 0, .int .i64 0, .slice none 0 0] 24 (0, 0))) (fun _ i _ => l.length - (intOf i).toNat)
          case atStart => exact ⟨1, Nat.le_refl _, by omega, rfl, rfl, Lib.hid (chain_one l), hEr, hsr, h2r⟩
          case round =>
            obtain ⟨k, hk1, hk, rfl, rfl, Hch, hE0, hs, h2⟩ := hrel
            clear h2r hEr hsr hrow hok hlc
            have hcl := catL_le hl hb k
            by_cases hlt : k < l.length
            · obtain ⟨j, rfl⟩ : ∃ j, k = j + 1 := ⟨k - 1, by omega⟩
              have hlti : ((j : Int) + 1) < (l.length : Int) := by omega
              have hjl : j < l.length := by omega
              obtain ⟨ad1, A1, c1, e1, _, hcl1, hok1, hlc1, hrow1⟩ := bt_at (Hrow.out wr hE0) j hjl
              injection e1 with e1
              subst e1
              obtain ⟨ad2, A2, c2, e2, _, hcl2, hok2, hlc2, hrow2⟩ := bt_at (Hrow.out wr hE0) (j + 1) hlt
              injection e2 with e2
              subst e2
              have Hc1 := Lib.hid (fun W (hE' : Ext wr W) => hcl1.ext hE')
              have Hc2 := Lib.hid (fun W (hE' : Ext wr W) => hcl2.ext hE')
              have hbl1 := hb _ (List.getElem_mem hjl)
              have hbl2 := hb _ (List.getElem_mem hlt)
              have Hcs := Lib.hid (show (catL (l.take (j + 1 + 1))).length = (catL (l.take (j + 1))).length + l[j + 1].l.length from by rw [catL_snoc hlt, List.length_append, atB_eq hlt])
              have Hok : Hid (okAt l (j + 1) = (!markB l[j] && goesB l[j] l[j + 1])) := Lib.hid (by unfold okAt; rw [atB_eq hlt, show j + 1 - 1 = j from rfl, atB_eq hjl])
              have hv1 := (validE_iff _).1 (firstE_all Hf.out _ (List.getElem_mem hjl))
              have Hgo := Lib.hid (fun W => goes_calls W l[j] l[j + 1] A1 A2 c1 c2 (by omega) hv1.nums.base hv1.nums.seq)
              have Hmk := Lib.hid (fun W => mark_calls W l[j] A1 c1)
              have Hbad := Lib.hid (fun h => @chain_bad l (j + 1) (by omega) hlt h)
              have Hstep := Lib.hid (fun h => @chain_step l (j + 1) Hch.out h)
              have hcs2 := catL_le hl hb (j + 1 + 1)
              have hcq := Hcs.out
              clear hcl1 hcl2 hok1 hok2 hrow1 hrow2 hlc1 hlc2 hv1 hfa
              unfold btC at Hgo Hmk
              generalize (catL (l.take (j + 1))).length = n1 at *
              generalize l[j] = b1 at *
              generalize l[j + 1] = b2 at *
              generalize goesB b1 b2 = gb at *
              generalize markB b1 = mk at *
              have kw : IntKind.i64.wrap (j : Int) = (j : Int) := IntWalk.i64_in _ ⟨by omega, by omega⟩
              go_upto_region 16 with fail
              cases mk with
              | true =>
                refine wp_region_steps [.eq (.slice (some ad) l.length c), .eq (.int .i64 ((j : Int) + 1)), .eq (.int .i64 (j : Int)), .eq (.pointer (some (ad.add (j * 7)))), .eq (.agg #[.int .i64 b1.base, .int .i64 b1.pid, .int .i64 b1.epoch, .int .i64 b1.seq, .int .i64 b1.kind, .int .i64 b1.time, .slice A1 b1.l.length c1]), .eq (.bool true), .eq (.bool true), .eq undef, .eq undef, .eq undef, .eq undef, .eq undef, .eq undef, .eq undef, .eq undef, .eq undef, .eq undef, .eq undef, .eq (.bool true)] (by kernel_rfl) (by kernel_rfl) (all_dst (by kernel_rfl)) ?_ ?_
                · refine ⟨?_, ?_, ?_, ?_, ?_, ?_, ?_, ?_, ?_, ?_, ?_, ?_, ?_, ?_, ?_, ?_, ?_, ?_, ?_, trivial⟩
                  · intro S W K hE hf hd hK
                    have f0 : S.tmps.getD 0 undef = .slice (some ad) l.length c := hf 0 (by kernel_rfl)
                    refine want_free rfl ?_
                    rw [Array.getD_eq_getD_getElem?] at f0
                    go_simp
                    exact hK _ _ (Ext.refl _) (fun _ => rfl)
                  · intro S W K hE hf hd hK
                    have f8 : S.tmps.getD 8 undef = .int .i64 ((j : Int) + 1) := hf 8 (by kernel_rfl)
                    refine want_free rfl ?_
                    rw [Array.getD_eq_getD_getElem?] at f8
                    go_simp
                    exact hK _ _ (Ext.refl _) (fun _ => rfl)
                  · intro S W K hE hf hd hK
                    have d49 : S.tmps.getD 49 undef = (.int .i64 ((j : Int) + 1)) := hd 1 _ rfl (by kernel_rfl)
                    refine want_free rfl ?_
                    rw [Array.getD_eq_getD_getElem?] at d49
                    go_simp
                    exact hK _ _ (Ext.refl _) (fun _ => rfl)
                  · intro S W K hE hf hd hK
                    have d48 : S.tmps.getD 48 undef = (.slice (some ad) l.length c) := hd 0 _ rfl (by kernel_rfl)
                    have d50 : S.tmps.getD 50 undef = (.int .i64 (j : Int)) := hd 2 _ rfl (by kernel_rfl)
                    refine want_free rfl ?_
                    rw [Array.getD_eq_getD_getElem?] at d48 d50
                    go_simp
                    exact hK _ _ (Ext.refl _) (fun _ => rfl)
                  · intro S W K hE hf hd hK
                    have d51 : S.tmps.getD 51 undef = (.pointer (some (ad.add (j * 7)))) := hd 3 _ rfl (by kernel_rfl)
                    refine want_free rfl ?_
                    rw [Array.getD_eq_getD_getElem?] at d51
                    obtain ⟨k0, k1, k2, k3, k4, k5, k6⟩ := Hc1.out W hE
                    go_simp
                    exact hK _ _ (Ext.refl _) (fun _ => rfl)
                  · intro S W K hE hf hd hK
                    have d52 : S.tmps.getD 52 undef = (.agg #[.int .i64 b1.base, .int .i64 b1.pid, .int .i64 b1.epoch, .int .i64 b1.seq, .int .i64 b1.kind, .int .i64 b1.time, .slice A1 b1.l.length c1]) := hd 4 _ rfl (by kernel_rfl)
                    refine want_free rfl ?_
                    rw [Array.getD_eq_getD_getElem?] at d52
                    go_simp
                    refine (Hmk.out W).mono ?_
                    rintro e W' ⟨rfl, hb⟩
                    exact hK _ _ hb (fun _ => rfl)
                  · intro S W K hE hf hd hK
                    have d53 : S.tmps.getD 53 undef = (.bool true) := hd 5 _ rfl (by kernel_rfl)
                    refine want_free rfl ?_
                    rw [Array.getD_eq_getD_getElem?] at d53
                    go_simp
                    exact hK _ _ (Ext.refl _) (fun _ => rfl)
                  · intro S W K hE hf hd hK
                    have f0 : S.tmps.getD 0 undef = .slice (some ad) l.length c := hf 0 (by kernel_rfl)
                    have d54 : S.tmps.getD 54 undef = (.bool true) := hd 6 _ rfl (by kernel_rfl)
                    refine want_else (t := 54) d54 rfl rfl rfl rfl ?_
                    exact fun _ => rfl
                  · intro S W K hE hf hd hK
                    have f8 : S.tmps.getD 8 undef = .int .i64 ((j : Int) + 1) := hf 8 (by kernel_rfl)
                    have d54 : S.tmps.getD 54 undef = (.bool true) := hd 6 _ rfl (by kernel_rfl)
                    refine want_else (t := 54) d54 rfl rfl rfl rfl ?_
                    exact fun _ => rfl
                  · intro S W K hE hf hd hK
                    have d56 : S.tmps.getD 56 undef = undef := hd 8 _ rfl (by kernel_rfl)
                    have d54 : S.tmps.getD 54 undef = (.bool true) := hd 6 _ rfl (by kernel_rfl)
                    refine want_else (t := 54) d54 rfl rfl rfl rfl ?_
                    exact fun _ => rfl
                  · intro S W K hE hf hd hK
                    have d55 : S.tmps.getD 55 undef = undef := hd 7 _ rfl (by kernel_rfl)
                    have d57 : S.tmps.getD 57 undef = undef := hd 9 _ rfl (by kernel_rfl)
                    have d54 : S.tmps.getD 54 undef = (.bool true) := hd 6 _ rfl (by kernel_rfl)
                    refine want_else (t := 54) d54 rfl rfl rfl rfl ?_
                    exact fun _ => rfl
                  · intro S W K hE hf hd hK
                    have d58 : S.tmps.getD 58 undef = undef := hd 10 _ rfl (by kernel_rfl)
                    have d54 : S.tmps.getD 54 undef = (.bool true) := hd 6 _ rfl (by kernel_rfl)
                    refine want_else (t := 54) d54 rfl rfl rfl rfl ?_
                    exact fun _ => rfl
                  · intro S W K hE hf hd hK
                    have f0 : S.tmps.getD 0 undef = .slice (some ad) l.length c := hf 0 (by kernel_rfl)
                    have d54 : S.tmps.getD 54 undef = (.bool true) := hd 6 _ rfl (by kernel_rfl)
                    refine want_else (t := 54) d54 rfl rfl rfl rfl ?_
                    exact fun _ => rfl
                  · intro S W K hE hf hd hK
                    have f8 : S.tmps.getD 8 undef = .int .i64 ((j : Int) + 1) := hf 8 (by kernel_rfl)
                    have d54 : S.tmps.getD 54 undef = (.bool true) := hd 6 _ rfl (by kernel_rfl)
                    refine want_else (t := 54) d54 rfl rfl rfl rfl ?_
                    exact fun _ => rfl
                  · intro S W K hE hf hd hK
                    have d60 : S.tmps.getD 60 undef = undef := hd 12 _ rfl (by kernel_rfl)
                    have d61 : S.tmps.getD 61 undef = undef := hd 13 _ rfl (by kernel_rfl)
                    have d54 : S.tmps.getD 54 undef = (.bool true) := hd 6 _ rfl (by kernel_rfl)
                    refine want_else (t := 54) d54 rfl rfl rfl rfl ?_
                    exact fun _ => rfl
                  · intro S W K hE hf hd hK
                    have d62 : S.tmps.getD 62 undef = undef := hd 14 _ rfl (by kernel_rfl)
                    have d54 : S.tmps.getD 54 undef = (.bool true) := hd 6 _ rfl (by kernel_rfl)
                    refine want_else (t := 54) d54 rfl rfl rfl rfl ?_
                    exact fun _ => rfl
                  · intro S W K hE hf hd hK
                    have d59 : S.tmps.getD 59 undef = undef := hd 11 _ rfl (by kernel_rfl)
                    have d63 : S.tmps.getD 63 undef = undef := hd 15 _ rfl (by kernel_rfl)
                    have d54 : S.tmps.getD 54 undef = (.bool true) := hd 6 _ rfl (by kernel_rfl)
                    refine want_else (t := 54) d54 rfl rfl rfl rfl ?_
                    exact fun _ => rfl
                  · intro S W K hE hf hd hK
                    have d64 : S.tmps.getD 64 undef = undef := hd 16 _ rfl (by kernel_rfl)
                    have d54 : S.tmps.getD 54 undef = (.bool true) := hd 6 _ rfl (by kernel_rfl)
                    refine want_else (t := 54) d54 rfl rfl rfl rfl ?_
                    exact fun _ => rfl
                  · intro S W K hE hf hd hK
                    have d54 : S.tmps.getD 54 undef = (.bool true) := hd 6 _ rfl (by kernel_rfl)
                    have d65 : S.tmps.getD 65 undef = undef := hd 17 _ rfl (by kernel_rfl)
                    refine want_free rfl ?_
                    rw [Array.getD_eq_getD_getElem?] at d54 d65
                    go_simp
                    exact hK _ _ (Ext.refl _) (fun _ => rfl)
                · intro vs W hE hV
                  have v0 : vs 0 = (.slice (some ad) l.length c) := hV 0 _ rfl (fun h => by cases h)
                  have v1 : vs 1 = (.int .i64 ((j : Int) + 1)) := hV 1 _ rfl (fun h => by cases h)
                  have v2 : vs 2 = (.int .i64 (j : Int)) := hV 2 _ rfl (fun h => by cases h)
                  have v3 : vs 3 = (.pointer (some (ad.add (j * 7)))) := hV 3 _ rfl (fun h => by cases h)
                  have v4 : vs 4 = (.agg #[.int .i64 b1.base, .int .i64 b1.pid, .int .i64 b1.epoch, .int .i64 b1.seq, .int .i64 b1.kind, .int .i64 b1.time, .slice A1 b1.l.length c1]) := hV 4 _ rfl (fun h => by cases h)
                  have v5 : vs 5 = (.bool true) := hV 5 _ rfl (fun h => by cases h)
                  have v6 : vs 6 = (.bool true) := hV 6 _ rfl (fun h => by cases h)
                  have v7 : vs 7 = undef := hV 7 _ rfl (fun h => by cases h)
                  have v8 : vs 8 = undef := hV 8 _ rfl (fun h => by cases h)
                  have v9 : vs 9 = undef := hV 9 _ rfl (fun h => by cases h)
                  have v10 : vs 10 = undef := hV 10 _ rfl (fun h => by cases h)
                  have v11 : vs 11 = undef := hV 11 _ rfl (fun h => by cases h)
                  have v12 : vs 12 = undef := hV 12 _ rfl (fun h => by cases h)
                  have v13 : vs 13 = undef := hV 13 _ rfl (fun h => by cases h)
                  have v14 : vs 14 = undef := hV 14 _ rfl (fun h => by cases h)
                  have v15 : vs 15 = undef := hV 15 _ rfl (fun h => by cases h)
                  have v16 : vs 16 = undef := hV 16 _ rfl (fun h => by cases h)
                  have v17 : vs 17 = undef := hV 17 _ rfl (fun h => by cases h)
                  have v18 : vs 18 = (.bool true) := hV 18 _ rfl (fun h => by cases h)
                  clear hV
                  set_option maxRecDepth 100000 in simp only [putAll, List.map_cons, List.map_nil, List.length_cons, List.length_nil, Nat.reduceAdd, List.range_succ, List.range_zero, List.nil_append, List.cons_append]
                  set_option maxRecDepth 100000 in go_simp
                  have h2f := (hE.block w.heap.size (by omega)).trans h2
                  have hEw := Ext.trans _ _ _ hE0 hE
                  have Hqn := Lib.hid (show Q = (btNone, 2) from by rw [HQ.out, merge_arg h1l Hf.out (Hbad.out (by rw [Hok.out]; rfl))])
                  clear kw
                  go_wp2_with (refine gate_op (p := .store 24 (.tmp 2) (.tmp 67)) rfl ?_; go_must (refine put_row rfl 24 (.tmp 2) (.tmp 67) rfl w.heap.size #[.int .i64 0, .int .i64 0, .int .i64 0, .int .i64 0, .int .i64 0, .int .i64 0, .slice none 0 0] rfl rfl _ _ h2f size_bt rfl (btC_one btNone none 0) ?_; intro wf hpf))
                  refine bodyPost_ret (results_row2 rfl _ _ w.heap.size _ _ _ _ rfl hpf.obj Try.underlying24 rfl size_bt) rfl ?_
                  exact merge_nil (hpf.below hEw (Nat.le_refl _)) Hqn.out
              | false =>
                refine wp_region_steps [.eq (.slice (some ad) l.length c), .eq (.int .i64 ((j : Int) + 1)), .eq (.int .i64 (j : Int)), .eq (.pointer (some (ad.add (j * 7)))), .eq (.agg #[.int .i64 b1.base, .int .i64 b1.pid, .int .i64 b1.epoch, .int .i64 b1.seq, .int .i64 b1.kind, .int .i64 b1.time, .slice A1 b1.l.length c1]), .eq (.bool false), .eq (.bool false), .eq (.slice (some ad) l.length c), .eq (.int .i64 ((j : Int) + 1)), .eq (.int .i64 (j : Int)), .eq (.pointer (some (ad.add (j * 7)))), .eq (.agg #[.int .i64 b1.base, .int .i64 b1.pid, .int .i64 b1.epoch, .int .i64 b1.seq, .int .i64 b1.kind, .int .i64 b1.time, .slice A1 b1.l.length c1]), .eq (.slice (some ad) l.length c), .eq (.int .i64 ((j : Int) + 1)), .eq (.pointer (some (ad.add ((j + 1) * 7)))), .eq (.agg #[.int .i64 b2.base, .int .i64 b2.pid, .int .i64 b2.epoch, .int .i64 b2.seq, .int .i64 b2.kind, .int .i64 b2.time, .slice A2 b2.l.length c2]), .eq (.bool gb), .eq (.bool (!gb)), .eq (.bool (!gb))] (by kernel_rfl) (by kernel_rfl) (all_dst (by kernel_rfl)) ?_ ?_
                · refine ⟨?_, ?_, ?_, ?_, ?_, ?_, ?_, ?_, ?_, ?_, ?_, ?_, ?_, ?_, ?_, ?_, ?_, ?_, ?_, trivial⟩
                  · intro S W K hE hf hd hK
                    have f0 : S.tmps.getD 0 undef = .slice (some ad) l.length c := hf 0 (by kernel_rfl)
                    refine want_free rfl ?_
                    rw [Array.getD_eq_getD_getElem?] at f0
                    go_simp
                    exact hK _ _ (Ext.refl _) (fun _ => rfl)
                  · intro S W K hE hf hd hK
                    have f8 : S.tmps.getD 8 undef = .int .i64 ((j : Int) + 1) := hf 8 (by kernel_rfl)
                    refine want_free rfl ?_
                    rw [Array.getD_eq_getD_getElem?] at f8
                    go_simp
                    exact hK _ _ (Ext.refl _) (fun _ => rfl)
                  · intro S W K hE hf hd hK
                    have d49 : S.tmps.getD 49 undef = (.int .i64 ((j : Int) + 1)) := hd 1 _ rfl (by kernel_rfl)
                    refine want_free rfl ?_
                    rw [Array.getD_eq_getD_getElem?] at d49
                    go_simp
                    exact hK _ _ (Ext.refl _) (fun _ => rfl)
                  · intro S W K hE hf hd hK
                    have d48 : S.tmps.getD 48 undef = (.slice (some ad) l.length c) := hd 0 _ rfl (by kernel_rfl)
                    have d50 : S.tmps.getD 50 undef = (.int .i64 (j : Int)) := hd 2 _ rfl (by kernel_rfl)
                    refine want_free rfl ?_
                    rw [Array.getD_eq_getD_getElem?] at d48 d50
                    go_simp
                    exact hK _ _ (Ext.refl _) (fun _ => rfl)
                  · intro S W K hE hf hd hK
                    have d51 : S.tmps.getD 51 undef = (.pointer (some (ad.add (j * 7)))) := hd 3 _ rfl (by kernel_rfl)
                    refine want_free rfl ?_
                    rw [Array.getD_eq_getD_getElem?] at d51
                    obtain ⟨k0, k1, k2, k3, k4, k5, k6⟩ := Hc1.out W hE
                    go_simp
                    exact hK _ _ (Ext.refl _) (fun _ => rfl)
                  · intro S W K hE hf hd hK
                    have d52 : S.tmps.getD 52 undef = (.agg #[.int .i64 b1.base, .int .i64 b1.pid, .int .i64 b1.epoch, .int .i64 b1.seq, .int .i64 b1.kind, .int .i64 b1.time, .slice A1 b1.l.length c1]) := hd 4 _ rfl (by kernel_rfl)
                    refine want_free rfl ?_
                    rw [Array.getD_eq_getD_getElem?] at d52
                    go_simp
                    refine (Hmk.out W).mono ?_
                    rintro e W' ⟨rfl, hb⟩
                    exact hK _ _ hb (fun _ => rfl)
                  · intro S W K hE hf hd hK
                    have d53 : S.tmps.getD 53 undef = (.bool false) := hd 5 _ rfl (by kernel_rfl)
                    refine want_free rfl ?_
                    rw [Array.getD_eq_getD_getElem?] at d53
                    go_simp
                    exact hK _ _ (Ext.refl _) (fun _ => rfl)
                  · intro S W K hE hf hd hK
                    have f0 : S.tmps.getD 0 undef = .slice (some ad) l.length c := hf 0 (by kernel_rfl)
                    have d54 : S.tmps.getD 54 undef = (.bool false) := hd 6 _ rfl (by kernel_rfl)
                    refine want_then (t := 54) d54 rfl rfl rfl ?_
                    rw [Array.getD_eq_getD_getElem?] at f0 d54
                    go_simp
                    exact hK _ _ (Ext.refl _) (fun _ => rfl)
                  · intro S W K hE hf hd hK
                    have f8 : S.tmps.getD 8 undef = .int .i64 ((j : Int) + 1) := hf 8 (by kernel_rfl)
                    have d54 : S.tmps.getD 54 undef = (.bool false) := hd 6 _ rfl (by kernel_rfl)
                    refine want_then (t := 54) d54 rfl rfl rfl ?_
                    rw [Array.getD_eq_getD_getElem?] at f8 d54
                    go_simp
                    exact hK _ _ (Ext.refl _) (fun _ => rfl)
                  · intro S W K hE hf hd hK
                    have d56 : S.tmps.getD 56 undef = (.int .i64 ((j : Int) + 1)) := hd 8 _ rfl (by kernel_rfl)
                    have d54 : S.tmps.getD 54 undef = (.bool false) := hd 6 _ rfl (by kernel_rfl)
                    refine want_then (t := 54) d54 rfl rfl rfl ?_
                    rw [Array.getD_eq_getD_getElem?] at d56 d54
                    go_simp
                    exact hK _ _ (Ext.refl _) (fun _ => rfl)
                  · intro S W K hE hf hd hK
                    have d55 : S.tmps.getD 55 undef = (.slice (some ad) l.length c) := hd 7 _ rfl (by kernel_rfl)
                    have d57 : S.tmps.getD 57 undef = (.int .i64 (j : Int)) := hd 9 _ rfl (by kernel_rfl)
                    have d54 : S.tmps.getD 54 undef = (.bool false) := hd 6 _ rfl (by kernel_rfl)
                    refine want_then (t := 54) d54 rfl rfl rfl ?_
                    rw [Array.getD_eq_getD_getElem?] at d55 d57 d54
                    go_simp
                    exact hK _ _ (Ext.refl _) (fun _ => rfl)
                  · intro S W K hE hf hd hK
                    have d58 : S.tmps.getD 58 undef = (.pointer (some (ad.add (j * 7)))) := hd 10 _ rfl (by kernel_rfl)
                    have d54 : S.tmps.getD 54 undef = (.bool false) := hd 6 _ rfl (by kernel_rfl)
                    refine want_then (t := 54) d54 rfl rfl rfl ?_
                    rw [Array.getD_eq_getD_getElem?] at d58 d54
                    obtain ⟨k0, k1, k2, k3, k4, k5, k6⟩ := Hc1.out W hE
                    go_simp
                    exact hK _ _ (Ext.refl _) (fun _ => rfl)
                  · intro S W K hE hf hd hK
                    have f0 : S.tmps.getD 0 undef = .slice (some ad) l.length c := hf 0 (by kernel_rfl)
                    have d54 : S.tmps.getD 54 undef = (.bool false) := hd 6 _ rfl (by kernel_rfl)
                    refine want_then (t := 54) d54 rfl rfl rfl ?_
                    rw [Array.getD_eq_getD_getElem?] at f0 d54
                    go_simp
                    exact hK _ _ (Ext.refl _) (fun _ => rfl)
                  · intro S W K hE hf hd hK
                    have f8 : S.tmps.getD 8 undef = .int .i64 ((j : Int) + 1) := hf 8 (by kernel_rfl)
                    have d54 : S.tmps.getD 54 undef = (.bool false) := hd 6 _ rfl (by kernel_rfl)
                    refine want_then (t := 54) d54 rfl rfl rfl ?_
                    rw [Array.getD_eq_getD_getElem?] at f8 d54
                    go_simp
                    exact hK _ _ (Ext.refl _) (fun _ => rfl)
                  · intro S W K hE hf hd hK
                    have d60 : S.tmps.getD 60 undef = (.slice (some ad) l.length c) := hd 12 _ rfl (by kernel_rfl)
                    have d61 : S.tmps.getD 61 undef = (.int .i64 ((j : Int) + 1)) := hd 13 _ rfl (by kernel_rfl)
                    have d54 : S.tmps.getD 54 undef = (.bool false) := hd 6 _ rfl (by kernel_rfl)
                    refine want_then (t := 54) d54 rfl rfl rfl ?_
                    rw [Array.getD_eq_getD_getElem?] at d60 d61 d54
                    go_simp
                    exact hK _ _ (Ext.refl _) (fun _ => rfl)
                  · intro S W K hE hf hd hK
                    have d62 : S.tmps.getD 62 undef = (.pointer (some (ad.add ((j + 1) * 7)))) := hd 14 _ rfl (by kernel_rfl)
                    have d54 : S.tmps.getD 54 undef = (.bool false) := hd 6 _ rfl (by kernel_rfl)
                    refine want_then (t := 54) d54 rfl rfl rfl ?_
                    rw [Array.getD_eq_getD_getElem?] at d62 d54
                    obtain ⟨k0, k1, k2, k3, k4, k5, k6⟩ := Hc2.out W hE
                    go_simp
                    exact hK _ _ (Ext.refl _) (fun _ => rfl)
                  · intro S W K hE hf hd hK
                    have d59 : S.tmps.getD 59 undef = (.agg #[.int .i64 b1.base, .int .i64 b1.pid, .int .i64 b1.epoch, .int .i64 b1.seq, .int .i64 b1.kind, .int .i64 b1.time, .slice A1 b1.l.length c1]) := hd 11 _ rfl (by kernel_rfl)
                    have d63 : S.tmps.getD 63 undef = (.agg #[.int .i64 b2.base, .int .i64 b2.pid, .int .i64 b2.epoch, .int .i64 b2.seq, .int .i64 b2.kind, .int .i64 b2.time, .slice A2 b2.l.length c2]) := hd 15 _ rfl (by kernel_rfl)
                    have d54 : S.tmps.getD 54 undef = (.bool false) := hd 6 _ rfl (by kernel_rfl)
                    refine want_then (t := 54) d54 rfl rfl rfl ?_
                    rw [Array.getD_eq_getD_getElem?] at d59 d63 d54
                    go_simp
                    refine (Hgo.out W).mono ?_
                    rintro e W' ⟨rfl, hb⟩
                    exact hK _ _ hb (fun _ => rfl)
                  · intro S W K hE hf hd hK
                    have d64 : S.tmps.getD 64 undef = (.bool gb) := hd 16 _ rfl (by kernel_rfl)
                    have d54 : S.tmps.getD 54 undef = (.bool false) := hd 6 _ rfl (by kernel_rfl)
                    refine want_then (t := 54) d54 rfl rfl rfl ?_
                    rw [Array.getD_eq_getD_getElem?] at d64 d54
                    go_simp
                    exact hK _ _ (Ext.refl _) (fun _ => rfl)
                  · intro S W K hE hf hd hK
                    have d54 : S.tmps.getD 54 undef = (.bool false) := hd 6 _ rfl (by kernel_rfl)
                    have d65 : S.tmps.getD 65 undef = (.bool (!gb)) := hd 17 _ rfl (by kernel_rfl)
                    refine want_free rfl ?_
                    rw [Array.getD_eq_getD_getElem?] at d54 d65
                    go_simp
                    exact hK _ _ (Ext.refl _) (fun _ => rfl)
                · intro vs W hE hV
                  have v0 : vs 0 = (.slice (some ad) l.length c) := hV 0 _ rfl (fun h => by cases h)
                  have v1 : vs 1 = (.int .i64 ((j : Int) + 1)) := hV 1 _ rfl (fun h => by cases h)
                  have v2 : vs 2 = (.int .i64 (j : Int)) := hV 2 _ rfl (fun h => by cases h)
                  have v3 : vs 3 = (.pointer (some (ad.add (j * 7)))) := hV 3 _ rfl (fun h => by cases h)
                  have v4 : vs 4 = (.agg #[.int .i64 b1.base, .int .i64 b1.pid, .int .i64 b1.epoch, .int .i64 b1.seq, .int .i64 b1.kind, .int .i64 b1.time, .slice A1 b1.l.length c1]) := hV 4 _ rfl (fun h => by cases h)
                  have v5 : vs 5 = (.bool false) := hV 5 _ rfl (fun h => by cases h)
                  have v6 : vs 6 = (.bool false) := hV 6 _ rfl (fun h => by cases h)
                  have v7 : vs 7 = (.slice (some ad) l.length c) := hV 7 _ rfl (fun h => by cases h)
                  have v8 : vs 8 = (.int .i64 ((j : Int) + 1)) := hV 8 _ rfl (fun h => by cases h)
                  have v9 : vs 9 = (.int .i64 (j : Int)) := hV 9 _ rfl (fun h => by cases h)
                  have v10 : vs 10 = (.pointer (some (ad.add (j * 7)))) := hV 10 _ rfl (fun h => by cases h)
                  have v11 : vs 11 = (.agg #[.int .i64 b1.base, .int .i64 b1.pid, .int .i64 b1.epoch, .int .i64 b1.seq, .int .i64 b1.kind, .int .i64 b1.time, .slice A1 b1.l.length c1]) := hV 11 _ rfl (fun h => by cases h)
                  have v12 : vs 12 = (.slice (some ad) l.length c) := hV 12 _ rfl (fun h => by cases h)
                  have v13 : vs 13 = (.int .i64 ((j : Int) + 1)) := hV 13 _ rfl (fun h => by cases h)
                  have v14 : vs 14 = (.pointer (some (ad.add ((j + 1) * 7)))) := hV 14 _ rfl (fun h => by cases h)
                  have v15 : vs 15 = (.agg #[.int .i64 b2.base, .int .i64 b2.pid, .int .i64 b2.epoch, .int .i64 b2.seq, .int .i64 b2.kind, .int .i64 b2.time, .slice A2 b2.l.length c2]) := hV 15 _ rfl (fun h => by cases h)
                  have v16 : vs 16 = (.bool gb) := hV 16 _ rfl (fun h => by cases h)
                  have v17 : vs 17 = (.bool (!gb)) := hV 17 _ rfl (fun h => by cases h)
                  have v18 : vs 18 = (.bool (!gb)) := hV 18 _ rfl (fun h => by cases h)
                  clear hV
                  set_option maxRecDepth 100000 in simp only [putAll, List.map_cons, List.map_nil, List.length_cons, List.length_nil, Nat.reduceAdd, List.range_succ, List.range_zero, List.nil_append, List.cons_append]
                  set_option maxRecDepth 100000 in go_simp
                  have h2f := (hE.block w.heap.size (by omega)).trans h2
                  have hEw := Ext.trans _ _ _ hE0 hE
                  have hWs := hE.size
                  obtain ⟨q0, q1, q2, q3, q4, q5, q6⟩ := Hc2.out W hE
                  clear kw
                  cases gb with
                  | true =>
                    have Hst2 := Lib.hid (Hstep.out (by rw [Hok.out]; rfl))
                    go_wp2
                    go_roundw
                    case rel => exact ⟨j + 1 + 1, by omega, by omega, by go_num, by rw [Hcs.out]; go_num, Hst2, hEw, by omega, h2f⟩
                    case measure => simp [intOf]; omega
                  | false =>
                    have Hqn := Lib.hid (show Q = (btNone, 2) from by rw [HQ.out, merge_arg h1l Hf.out (Hbad.out (by rw [Hok.out]; rfl))])
                    clear q0 q1 q2 q3 q4 q5 q6
                    go_wp2_with (refine gate_op (p := .store 24 (.tmp 2) (.tmp 67)) rfl ?_; go_must (refine put_row rfl 24 (.tmp 2) (.tmp 67) rfl w.heap.size #[.int .i64 0, .int .i64 0, .int .i64 0, .int .i64 0, .int .i64 0, .int .i64 0, .slice none 0 0] rfl rfl _ _ h2f size_bt rfl (btC_one btNone none 0) ?_; intro wf hpf))
                    refine bodyPost_ret (results_row2 rfl _ _ w.heap.size _ _ _ _ rfl hpf.obj Try.underlying24 rfl size_bt) rfl ?_
                    exact merge_nil (hpf.below hEw (Nat.le_refl _)) Hqn.out
            · obtain rfl : k = l.length := by omega
              rw [List.take_length] at hcl
              rw [List.take_length]
              by_cases h64 : 64 < (catL l).length
              · have h64i : (64 : Int) < ((catL l).length : Int) := by omega
                have Hqn := Lib.hid (show Q = (btNone, 7) from by rw [HQ.out, merge_long h1l Hf.out Hch.out h64])
                generalize (catL l).length = nn at *
                go_wp2_with (refine gate_op (p := .store 24 (.tmp 2) (.tmp 78)) rfl ?_; go_must (refine put_row rfl 24 (.tmp 2) (.tmp 78) rfl w.heap.size #[.int .i64 0, .int .i64 0, .int .i64 0, .int .i64 0, .int .i64 0, .int .i64 0, .slice none 0 0] rfl rfl _ _ h2 size_bt rfl (btC_one btNone none 0) ?_; intro wf hpf))
                refine bodyPost_ret (results_row2 rfl _ _ w.heap.size _ _ _ _ rfl hpf.obj Try.underlying24 rfl size_bt) rfl ?_
                exact merge_nil (hpf.below hE0 (Nat.le_refl _)) Hqn.out
              · have h64i : ¬ (64 : Int) < ((catL l).length : Int) := by omega
                have Hqn := Lib.hid (show Q = ({ atB l 0 with l := catL l }, 0) from by rw [HQ.out, merge_all h1l Hf.out Hch.out h64])
                obtain ⟨ad', A', c', e', _, hcl1, hok1, hlc1, hrow1⟩ := bt_at0 (Hrow.out wr hE0) hpos
                injection e' with e'
                subst e'
                have hbl := hb _ (List.getElem_mem hpos)
                have h0e := atB_eq hpos
                rw [h0e] at Hqn
                have Hc1 := Lib.hid (catL_one hpos)
                rw [h0e] at Hc1
                have Hcp := Lib.hid (Copy_calls wr w.heap.size (by omega) l[0] A' c' ⟨hok1, hlc1, hrow1⟩ (by omega))
                generalize l[0] = b0 at *
                obtain ⟨k0, k1, k2, k3, k4, k5, k6⟩ := hcl1
                clear h0e h64 hcl
                unfold btC at Hcp
                go_wp2_with fail
                refine Hcp.out.mono ?_
                rintro e w7 ⟨A7, c7, rfl, ho7, hE7⟩
                clear k0 k1 k2 k3 k4 k5 k6 Hcp hok1 hlc1 hrow1
                have h27 := (hE7.block w.heap.size (by omega)).trans h2
                have hE7w := Ext.trans _ _ _ hE0 hE7
                have hs7 : w.heap.size + 1 ≤ w7.heap.size := by have := hE7.size; omega
                have hsl := fun W => slice_from (P := Try.prog) 41 24 7 Try.underlying41 (by kernel_rfl) (some ad) l.length c 1 (by omega) (by omega) W .i64
                have Hrow1 := Lib.hid (fun W (hE : Ext w W) => (Hrow.out W hE).cut_from c 1 7 rfl (by omega) hc)
                rw [show (1 : Int).toNat = 1 from rfl] at hsl
                generalize cutA (some ad) c 1 7 = Ad at *
                obtain ⟨m, hm1⟩ : ∃ m, l.length = m + 1 := ⟨l.length - 1, by omega⟩
                have hlm : l.length - 1 = m := by omega
                have Hlm := Lib.hid hlm
                have Hm1 := Lib.hid hm1
                rw [hlm] at hsl
                clear hlm hm1
                go_upto_region 22 with (refine gate_op (p := .store 24 (.tmp 9) (.tmp 82)) rfl ?_; go_must (refine put_row rfl 24 (.tmp 9) (.tmp 82) rfl w7.heap.size (btC b0 A7 c7) rfl rfl _ _ (one_new _ _).1 size_bt rfl (btC_one _ _ _) ?_; intro w8 hp8; have hE8 : Ext w7 w8 := hp8.below (one_new _ _).2.1 (Nat.le_refl _); have ho8 := hp8.own (ho7.below (one_new w7 _).2.1) (fun k hk => by have := (ho7.at hk).2; omega) (fun _ h => h.elim); have hs8 : w8.heap.size = w7.heap.size + 1 := hp8.size.trans (one_new _ _).2.2; have H8 := Lib.hid (And.intro hE8 (And.intro ho8 (And.intro hp8.obj hs8))); clear hE8 ho8 hp8 hs8))
                obtain ⟨hE78, ho8, hj8, hs8⟩ := H8.out
                have hat8 := fun k (hk : (Value.slice A7 b0.l.length c7).ownBlock = some k) => (ho7.at hk)
                have hE8w := Ext.trans _ _ _ hE7w hE78
                have h28 := (hE78.block w.heap.size (by omega)).trans h27
                have hs8' : w7.heap.size < w8.heap.size := by omega
                clear hs8 H8
                go_upto_region 23 with fail
                generalize w7.heap.size = g at *
                go_loopw [86] (fun i wr => ∃ (j : Nat) (Al : Option Addr) (cl : Nat), j + 1 ≤ l.length ∧ i = .int .i64 j ∧ Own recK 54 wr (w.heap.size + 1) (fun _ => False) (.slice Al (catL (l.take (j + 1))).length cl) (catL (l.take (j + 1))) ∧ Hid (∀ k, (Value.slice Al (catL (l.take (j + 1))).length cl).ownBlock = some k → k ≠ g) ∧ wr.heap[g]? = some (.cells (btC { b0 with l := catL (l.take (j + 1)) } Al cl) 24 (0, 0)) ∧ wr.heap[w.heap.size]? = some (.cells #[.int .i64 0, .int .i64 0, .int .i64 0, .int .i64 0, .int .i64 0, .int .i64 0, .slice none 0 0] 24 (0, 0)) ∧ Ext w wr) (fun i _ => l.length - (intOf i).toNat)
                case atStart => exact ⟨0, A7, c7, by omega, rfl, by rw [Hc1.out]; exact ho8.lower hs, Lib.hid (by rw [Hc1.out]; exact fun k hk => by have := (hat8 k hk).2; omega), by rw [Hc1.out]; exact hj8, h28, hE8w⟩
                case round =>
                  obtain ⟨j, Al, cl, hj, rfl, ho, Hne, hgj, h2j, hEj⟩ := hrel
                  have hcl := catL_le hl hb (j + 1)
                  have Hdl := Lib.hid (show (l.drop 1).length = m from by rw [List.length_drop]; have := Hm1.out; omega)
                  by_cases hlt : j < m
                  · have hlti : (j : Int) < (m : Int) := by omega
                    have hjd : j < (l.drop 1).length := by rw [Hdl.out]; exact hlt
                    have hjl : j + 1 < l.length := by have := Hm1.out; omega
                    obtain ⟨ad2, A2, c2, rfl, _, hcl2, hok2, hlc2, hrow2⟩ := bt_at (Hrow1.out wr hEj) j hjd
                    have hje : (l.drop 1)[j] = atB l (j + 1) := by rw [atB_eq hjl, List.getElem_drop]; congr 1; omega
                    rw [hje] at hcl2 hok2 hlc2 hrow2
                    have Hcs := Lib.hid (catL_snoc (l := l) (k := j + 1) hjl)
                    have hbl2 : (atB l (j + 1)).l.length ≤ 1000 := by rw [atB_eq hjl]; exact hb _ (List.getElem_mem hjl)
                    have hsr : w.heap.size + 1 ≤ wr.heap.size := (Array.getElem?_eq_some_iff.1 hgj).1 |> fun h => by omega
                    have hgr : g < wr.heap.size := (Array.getElem?_eq_some_iff.1 hgj).1
                    generalize atB l (j + 1) = b2 at *
                    generalize catL (l.take (j + 1)) = L1 at *
                    obtain ⟨d0, d1, d2, d3, d4, d5, d6⟩ := hcl2
                    clear hje hjd
                    go_upto_region 25 with (refine gate_op (p := .store 24 (.tmp 11) (.tmp 89)) rfl ?_; go_must (refine put_row rfl 24 (.tmp 11) (.tmp 89) rfl wr.heap.size (btC b2 A2 c2) rfl rfl _ _ (one_new _ _).1 size_bt rfl (btC_one _ _ _) ?_; intro w10 hp10; have hE10 : Ext wr w10 := hp10.below (one_new _ _).2.1 (Nat.le_refl _); have ho10 := ho.below hE10; have H10 := Lib.hid (And.intro hE10 (And.intro ho10 (And.intro hp10.obj (hp10.size.trans (one_new _ _).2.2)))); clear hE10 ho10 hp10))
                    clear d0 d1 d2 d3 d4 d5 d6
                    obtain ⟨hE10, ho10, hj10, hs10⟩ := H10.out
                    have hg10 := (hE10.block g hgr).trans hgj
                    have h210 := (hE10.block w.heap.size (by omega)).trans h2j
                    have n6 : w10.cell? ⟨wr.heap.size, 6, none⟩ = some (.slice A2 b2.l.length c2) := (cell_of hj10 6).trans rfl
                    have g6 : w10.cell? ⟨g, 6, none⟩ = some (.slice Al L1.length cl) := (cell_of hg10 6).trans rfl
                    have hsl2 : Sl recK w10 (fun k => k < w.heap.size) (.slice A2 b2.l.length c2) b2.l := ⟨A2, c2, rfl, hlc2.1, hlc2.2, hrow2.belowF (fun _ h => Nat.lt_of_lt_of_le h hEj.size) hE10⟩
                    have hEw10 := Ext.trans _ _ _ hEj hE10
                    have Hlast := Lib.hid (And.intro hg10 (And.intro h210 (And.intro hEw10 hs10)))
                    clear hgj h2j hj10 hg10 h210 hE10 ho H10 hrow2 hok2 hlc2 hs10
                    go_wp2_with (first
                      | (at_builtin; go_must (refine app_flat recK flat_rec (w.heap.size + 1) rfl (.tmp 91) (.tmp 93) 22 54 48 rfl Try.underlying22 info_rec (.slice Al L1.length cl) (.slice A2 b2.l.length c2) L1 b2.l (fun _ => False) _ rfl rfl ho10 hsl2 (by omega) (by simp only [maxLen]; omega) (by have := Hlast.out.2.2.2; omega) ?_; intro v11 w11 ho11 hg11 ha11; obtain ⟨L2, hL2⟩ : ∃ L, L = L1 ++ b2.l := ⟨_, rfl⟩; rw [← hL2] at ho11; have HL2 := Lib.hid (Hcs.out.trans hL2.symm); clear hL2; obtain ⟨A11, c11, e11, l11, m11⟩ := ho11.slice; subst e11; have hgg := (hg11.block g (by have := Hlast.out.2.2.2; omega) (fun e => Hne.out g e.symm rfl)).trans Hlast.out.1; have H11 := Lib.hid (And.intro ho11 (And.intro hg11 ha11)); clear ho11 hg11 ha11))
                      | (refine gate_op (p := .store 22 (.tmp 96) (.tmp 95)) rfl ?_; go_must (refine put_cell rfl 22 (.tmp 96) (.tmp 95) rfl g 6 (.slice A11 L2.length c11) rfl rfl rfl _ _ hgg size_sl (show 6 < 7 by decide) ?_; intro w12 hp12)))
                    have hne12 : ∀ k, (Value.slice A11 L2.length c11).ownBlock = some k → k ≠ g := fun k hk => by
                      rcases H11.out.2.2 with h5 | h5
                      · exact Hne.out k (h5 ▸ hk)
                      · rw [h5] at hk
                        injection hk with hk
                        have := Hlast.out.2.2.2
                        omega
                    have hgr11 := H11.out.2.1
                    have hown := ho10.at (k := w.heap.size)
                    have h2l := (hp12.block w.heap.size (by omega)).trans ((hgr11.block w.heap.size (by have := Hlast.out.2.2.2; omega) (fun e => by have := (hown e.symm).1; omega)).trans Hlast.out.2.1)
                    have hE12 := hp12.below (Below.grown Hlast.out.2.2.1 hgr11 (by have := Hlast.out.2.2.2; omega) (fun k hk => by have := (ho10.at hk).1; omega)) (show w.heap.size ≤ g by omega)
                    have ho12 := hp12.own H11.out.1 hne12 (fun _ h => h.elim)
                    go_roundw
                    case rel => exact ⟨j + 1, A11, c11, by omega, by go_num, by rw [HL2.out]; exact ho12, Lib.hid (by rw [HL2.out]; exact hne12), by rw [HL2.out]; exact hp12.obj, h2l, hE12⟩
                    case measure => simp [intOf]; omega
                  · obtain rfl : j = m := by have := Hm1.out; omega
                    rw [← Hm1.out, List.take_length] at ho hgj
                    have hne := Hne.out
                    rw [← Hm1.out, List.take_length] at hne
                    have hnei : ¬ (j : Int) < (j : Int) := by omega
                    unfold btC at hgj
                    simp only at hgj
                    have k0 := (cell_of hgj 0).trans rfl
                    have k1 := (cell_of hgj 1).trans rfl
                    have k2 := (cell_of hgj 2).trans rfl
                    have k3 := (cell_of hgj 3).trans rfl
                    have k4 := (cell_of hgj 4).trans rfl
                    have k5 := (cell_of hgj 5).trans rfl
                    have k6 := (cell_of hgj 6).trans rfl
                    clear hgj
                    go_wp2_with (refine gate_op (p := .store 24 (.tmp 2) (.tmp 98)) rfl ?_; go_must (refine put_row rfl 24 (.tmp 2) (.tmp 98) rfl w.heap.size (btC { b0 with l := catL l } Al cl) rfl rfl _ _ h2j size_bt rfl (btC_one _ _ _) ?_; intro wf hpf))
                    refine bodyPost_ret (results_row2 rfl _ _ w.heap.size _ _ _ _ rfl hpf.obj Try.underlying24 rfl size_bt) rfl ?_
                    exact ⟨{ b0 with l := catL l }, Al, cl, 0, rfl, (hpf.own ho (fun k hk => by have := (ho.at hk).1; omega) (fun _ h => h.elim)).lower (by omega), hpf.below hEj (Nat.le_refl _), Hqn.out⟩

end Go.Proofs.Ytaomhedjamnloaa
