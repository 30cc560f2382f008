/- Contract: the document's Merge. -/
import Derived.Test.YtaomhedjamnloaaRecMg2
import Derived.Test.YtaomhedjamnloaaRecMr
import Derived.Test.YtaomhedjamnloaaRecJ
set_option linter.unusedVariables false
set_option linter.unusedSimpArgs false
namespace Go.Proofs.Ytaomhedjamnloaa
open Go Go.RowKit

def RMergePost (w : World) (p : BtM × Int) (e : Ending) (w' : World) : Prop :=
  ∃ b A c er, e = .returned (.tuple #[.agg (btC b A c), .int .i64 er]) ∧ BtAt w' w'.heap.size b A c ∧ Ext w w' ∧ p = (b, er)
theorem rzero_ok : BtOk btNone := ⟨⟨by decide, by decide⟩, ⟨by decide, by decide⟩, ⟨by decide, by decide⟩, ⟨by decide, by decide⟩, ⟨by decide, by decide⟩, ⟨by decide, by decide⟩⟩
theorem rmerge_nil {w w' : World} {er : Int} {p : BtM × Int} (hE : Ext w w') (h : p = (btNone, er)) : RMergePost w p (.returned (.tuple #[.agg #[.int .i64 0, .int .i64 0, .int .i64 0, .int .i64 0, .int .i64 0, .int .i64 0, .slice none 0 0], .int .i64 er])) w' :=
  ⟨btNone, none, 0, er, rfl, ⟨rzero_ok, ⟨Nat.le_refl _, Nat.zero_le _⟩, Row.nil _ _ _ _⟩, hE, h⟩
theorem valid_ok {b : BtM} (hv : validE b = 0) : BtOk b := by
  have hf := (validE_iff b).1 hv
  have g1 := hf.nums.base
  have g2 := hf.nums.pid
  have g3 := hf.nums.epoch
  have g4 := hf.nums.seq
  have g5 := hf.nums.kind
  have g6 := hf.nums.time
  exact ⟨⟨by omega, by omega⟩, ⟨by omega, by omega⟩, ⟨by omega, by omega⟩, ⟨by omega, by omega⟩, ⟨by omega, by omega⟩, ⟨by omega, by omega⟩⟩
theorem piece_all {b : BtM} (hv : validE b = 0) : pieceB b 0 b.l.length = b := by
  have hf := (validE_iff b).1 hv
  have h0 := hf.seq0
  have h1 := hf.nums.pid
  unfold pieceB
  obtain ⟨ba, pi, ep, sq, kd, tm, l⟩ := b
  simp only [List.take_length, List.drop_zero, Int.add_zero, Int.natCast_zero] at *
  by_cases hp : 0 < pi
  · rw [if_pos hp]
  · rw [if_neg hp, h0 (.inr (by omega))]
def SP.fresh (n : Nat) : SP Ext := ⟨fun v w => ∃ g, v = .pointer (some ⟨g, 0, none⟩) ∧ n ≤ g ∧ w.heap[g]? = some (.cells #[.int .i64 0, .int .i64 0, .int .i64 0, .int .i64 0, .int .i64 0, .int .i64 0, .slice none 0 0] 24 (0, 0)), fun {v w w'} h hE => by
  obtain ⟨g, h1, h2, h3⟩ := h
  exact ⟨g, h1, h2, (hE.block g (Array.getElem?_eq_some_iff.1 h3).1).trans h3⟩⟩
def SP.ownbt (n : Nat) (b : BtM) : SP Ext := ⟨fun v w => ∃ A c, v = .agg (btC b A c) ∧ Own recK 54 w n (fun _ => False) (.slice A b.l.length c) b.l, fun {v w w'} h hE => by
  obtain ⟨A, c, h1, h2⟩ := h
  exact ⟨A, c, h1, h2.below hE⟩⟩
theorem own_far {w : World} {n g : Nat} {v : Value} {l : List Rc} {cs : Array Value} (h : Own recK 54 w n (fun _ => False) v l) (hg : w.heap[g]? = some (.cells cs 24 (0, 0))) : ∀ k, v.ownBlock = some k → k ≠ g := by
  rintro k hk rfl
  obtain ⟨cs', ⟨h1, h2⟩, hr⟩ := h
  rcases h2 with ⟨rfl, _⟩ | ⟨g', cap, cur, rfl, hg', hh, rest⟩
  · cases hk
  · have e : g' = k := by simpa [Value.ownBlock] using hk
    subst e
    rw [hg] at hh
    injection hh with hh
    injection hh with e1 e2
    cases e2
set_option maxRecDepth 8000 in
set_option maxHeartbeats 4000000 in
theorem Rmerge_calls (w : World) (A : Option Addr) (c : Nat) (l : List BtM) (hc : l.length ≤ c) (hm : c ≤ maxLen) (hl : l.length ≤ 1000) (hb : ∀ b ∈ l, b.l.length ≤ 1000) (hr : Row btM w (fun k => k < w.heap.size) A l) :
    Calls Try.prog 29 #[.slice A l.length c] w (RMergePost w (mergeB l)) := by
  obtain ⟨h2, hE2, hs2⟩ := one_new w (.cells (btC btNone none 0) 24)
  unfold btC btNone at h2 hE2 hs2
  simp only [List.length_nil] at h2 hE2 hs2
  have Hrow := Lib.hid (fun W (hE : Ext w W) => hr.belowF (fun _ h => h) hE)
  obtain ⟨Q, hQ⟩ : ∃ q, q = mergeB l := ⟨_, rfl⟩
  rw [← hQ]
  have HQ := Lib.hid hQ
  clear hQ hr
  go_enter Try.func29, Try.ntmps29
  go_upto_region 1 with fail
  generalize w.alloc _ = w2 at *
  by_cases h0 : l.length = 0
  · have hqn : Q = (btNone, 3) := by
      rw [HQ.out]
      unfold mergeB
      rw [if_pos h0]
    have Hqn := Lib.hid hqn
    have h0b : ((l.length : Int) == 0) = true := by rw [h0]; rfl
    clear hqn h0
    go_wp2_with (refine gate_op (p := .store 24 (.tmp 2) (.tmp 14)) rfl ?_; go_must (refine put_row rfl 24 (.tmp 2) (.tmp 14) rfl w.heap.size #[.int .i64 0, .int .i64 0, .int .i64 0, .int .i64 0, .int .i64 0, .int .i64 0, .slice none 0 0] rfl rfl _ _ h2 size_bt rfl (btC_one btNone none 0) ?_; intro wf hpf))
    refine bodyPost_ret (results_row2 rfl _ _ w.heap.size _ _ _ _ rfl hpf.obj Try.underlying24 rfl size_bt) rfl ?_
    exact rmerge_nil (hpf.below hE2 (Nat.le_refl _)) Hqn.out
  · have h0b : ((l.length : Int) == 0) = false := by rw [beq_eq_false_iff_ne]; omega
    have hpos : 0 < l.length := by omega
    clear h0
    go_upto_region 4 with fail
    go_loopw [17] (fun i wr => ∃ k : Nat, k ≤ l.length ∧ i = .int .i64 k ∧ Hid (firstE (l.take k) = 0) ∧ Ext w wr ∧ w.heap.size + 1 ≤ wr.heap.size ∧ wr.heap[w.heap.size]? = some (.cells #[.int .i64 0, .int .i64 0, .int .i64 0, .int .i64 0, .int .i64 0, .int .i64 0, .slice none 0 0] 24 (0, 0))) (fun i _ => l.length - (intOf i).toNat)
    case atStart => exact ⟨0, Nat.zero_le _, rfl, Lib.hid rfl, hE2, by omega, h2⟩
    case round =>
      obtain ⟨k, hk, rfl, Hf, hEr, hsr, h2r⟩ := hrel
      clear h2 hE2 hs2
      by_cases hlt : k < l.length
      · have hlti : (k : Int) < (l.length : Int) := by omega
        obtain ⟨ad, A', c', rfl, hfa, hcl, hok, hlc, hrow⟩ := bt_at (Hrow.out wr hEr) k hlt
        have Hat := Lib.hid (fun h h2 => @firstE_at l k hlt h h2)
        have Hsn := Lib.hid (fun h h2 => @firstE_snoc l k hlt h h2)
        have hbl := hb _ (List.getElem_mem hlt)
        generalize l[k] = b at *
        obtain ⟨c0, c1, c2, c3, c4, c5, c6⟩ := hcl
        go_upto_region 6 with (refine gate_op (p := .store 24 (.tmp 5) (.tmp 20)) rfl ?_; go_must (refine put_row rfl 24 (.tmp 5) (.tmp 20) rfl wr.heap.size (btC b A' c') rfl rfl _ _ (one_new _ _).1 size_bt rfl (btC_one _ _ _) ?_; intro w5 hp5; have hE5 : Ext wr w5 := hp5.below (one_new _ _).2.1 (Nat.le_refl _); have H5 := Lib.hid (And.intro hE5 hp5.obj); clear hE5 hp5))
        clear c0 c1 c2 c3 c4 c5 c6
        obtain ⟨hE5, hj5⟩ := H5.out
        have Hv := Lib.hid (Rvalid_calls w5 w.heap.size (by have := hE5.size; omega) b A' c' ⟨hok, hlc, hrow.belowF (fun _ h => Nat.lt_of_lt_of_le h hEr.size) hE5⟩)
        unfold btC at hj5 Hv
        have k0 := (cell_of hj5 0).trans rfl
        have k1 := (cell_of hj5 1).trans rfl
        have k2 := (cell_of hj5 2).trans rfl
        have k3 := (cell_of hj5 3).trans rfl
        have k4 := (cell_of hj5 4).trans rfl
        have k5 := (cell_of hj5 5).trans rfl
        have k6 := (cell_of hj5 6).trans rfl
        go_wp2_with fail
        refine Hv.out.mono ?_
        rintro e w6 ⟨rfl, hE6⟩
        clear k0 k1 k2 k3 k4 k5 k6
        have hE56 := Ext.trans _ _ _ hE5 hE6
        have hE6w := Ext.trans _ _ _ hEr hE56
        have h2f := (hE56.block w.heap.size (by omega)).trans h2r
        by_cases hv : validE b = 0
        · rw [hv]
          have Hf2 := Lib.hid (Hsn.out Hf.out hv)
          have hs6 := hE56.size
          clear hv
          go_wp2
          go_roundw
          case rel => exact ⟨k + 1, hlt, by go_num, Hf2, hE6w, by omega, h2f⟩
          case measure => simp [intOf]; omega
        · have Hqn := Lib.hid (show Q = (btNone, validE b) from by rw [HQ.out, merge_bad hpos (by rw [Hat.out Hf.out hv]; exact hv), Hat.out Hf.out hv])
          have hd : decide (validE b = 0) = false := decide_eq_false hv
          have hd2 : (validE b == 0) = false := by rw [beq_eq_false_iff_ne]; exact hv
          have hd3 : (validE b != 0) = true := by simpa using hv
          generalize validE b = v at *
          clear hv
          go_wp2_with (refine gate_op (p := .store 24 (.tmp 2) (.tmp 25)) rfl ?_; go_must (refine put_row rfl 24 (.tmp 2) (.tmp 25) rfl w.heap.size #[.int .i64 0, .int .i64 0, .int .i64 0, .int .i64 0, .int .i64 0, .int .i64 0, .slice none 0 0] rfl rfl _ _ h2f size_bt rfl (btC_one btNone none 0) ?_; intro wf hpf))
          refine bodyPost_ret (results_row2 rfl _ _ w.heap.size _ _ _ _ rfl hpf.obj Try.underlying24 rfl size_bt) rfl ?_
          exact rmerge_nil (hpf.below hE6w (Nat.le_refl _)) Hqn.out
      · obtain rfl : k = l.length := by omega
        rw [List.take_length] at Hf
        by_cases h1 : l.length = 1
        · have h1b : ((l.length : Int) == 1) = true := by rw [h1]; rfl
          have Hqn := Lib.hid (show Q = (atB l 0, 0) from by rw [HQ.out, merge_one h1 Hf.out])
          obtain ⟨ad, A', c', rfl, hfa, hcl, hok, hlc, hrow⟩ := bt_at0 (Hrow.out wr hEr) hpos
          have h0e := atB_eq hpos
          rw [h0e] at Hqn
          have Hbt := Lib.hid (show BtAt wr w.heap.size l[0] A' c' from ⟨hok, hlc, hrow⟩)
          generalize l[0] = b at *
          obtain ⟨c0, c1, c2, c3, c4, c5, c6⟩ := hcl
          clear h0e h1 hok hlc hrow
          go_wp2_with (refine gate_op (p := .store 24 (.tmp 2) (.tmp 33)) rfl ?_; go_must (refine put_row rfl 24 (.tmp 2) (.tmp 33) rfl w.heap.size (btC b A' c') rfl rfl _ _ h2r size_bt rfl (btC_one _ _ _) ?_; intro wf hpf))
          refine bodyPost_ret (results_row2 rfl _ _ w.heap.size _ _ _ _ rfl hpf.obj Try.underlying24 rfl size_bt) rfl ?_
          exact ⟨b, A', c', 0, rfl, (Hbt.out.below (hpf.below (Below.refl w.heap.size wr) (Nat.le_refl _))).up (by rw [hpf.size]; omega), hpf.below hEr (Nat.le_refl _), Hqn.out⟩
        · have h1b : ((l.length : Int) == 1) = false := by rw [beq_eq_false_iff_ne]; omega
          have h1l : 1 < l.length := by omega
          clear h1
          obtain ⟨ad, A1, c1, rfl, hfa, hcl1, hok1, hlc1, hrow1⟩ := bt_at0 (Hrow.out wr hEr) hpos
          have h0e := atB_eq hpos
          have hbl1 := hb _ (List.getElem_mem hpos)
          have hv1 := firstE_all Hf.out _ (List.getElem_mem hpos)
          have hf1 := (validE_iff _).1 hv1
          have Hpa := Lib.hid (piece_all hv1)
          have Hc1 := Lib.hid (fun W (hE' : Ext wr W) => hcl1.ext hE')
          have Hpc := Lib.hid (fun W (hE' : Ext wr W) => Piece_calls W w.heap.size (by have := hE'.size; omega) l[0] A1 c1 ⟨hok1, hlc1, hrow1.belowF (fun _ h => Nat.lt_of_lt_of_le h hEr.size) hE'⟩ 0 l[0].l.length (Nat.zero_le _) (Nat.le_refl _) hbl1 hf1.nums.base hf1.nums.seq)
          rw [Hpa.out] at Hpc
          have Hcat1 := Lib.hid (show catL (l.take 1) = l[0].l from by rw [catL_one hpos, atB_eq hpos])
          have Hat0 := Lib.hid h0e
          have hnum := hf1.nums
          have Hok0 := Lib.hid hok1
          clear h0e hcl1 hok1 hlc1 hrow1 hf1 hv1
          generalize l[0] = b0 at *
          unfold btC at Hpc
          go_upto_region 12 with fail
          refine wp_region_tail 10 [.eq (.slice (some ad) l.length c), .eq (.pointer (some ad)), .eq (.agg #[.int .i64 b0.base, .int .i64 b0.pid, .int .i64 b0.epoch, .int .i64 b0.seq, .int .i64 b0.kind, .int .i64 b0.time, .slice A1 b0.l.length c1]), .eq (.slice (some ad) l.length c), .eq (.pointer (some ad)), .eq (.pointer (some ⟨ad.block, ad.off + 6, none⟩)), .eq (.slice A1 b0.l.length c1), .eq (.int .i64 b0.l.length), .ownbt wr.heap.size b0, .fresh wr.heap.size] (by kernel_rfl) (by kernel_rfl) (by kernel_rfl) (by kernel_rfl) (pre_dst (m := 10) (by kernel_rfl)) ?_ ?_
          · refine ⟨?_, ?_, ?_, ?_, ?_, ?_, ?_, ?_, ?_, ?_, trivial⟩
            · intro S W K hE hf hd hK
              have f0 : S.tmps.getD 0 undef = .slice (some ad) l.length c := hf 0 (by kernel_rfl)
              refine want_free rfl ?_
              rw [Array.getD_eq_getD_getElem?] at f0
              go_simp
              exact hK _ _ (Ext.refl _) (fun _ => rfl)
            · intro S W K hE hf hd hK
              have d34 : S.tmps.getD 34 undef = (.slice (some ad) l.length c) := hd 0 _ rfl (by kernel_rfl)
              refine want_free rfl ?_
              rw [Array.getD_eq_getD_getElem?] at d34
              go_simp
              exact hK _ _ (Ext.refl _) (fun _ => rfl)
            · intro S W K hE hf hd hK
              have d35 : S.tmps.getD 35 undef = (.pointer (some ad)) := hd 1 _ rfl (by kernel_rfl)
              refine want_free rfl ?_
              rw [Array.getD_eq_getD_getElem?] at d35
              obtain ⟨k0, k1, k2, k3, k4, k5, k6⟩ := Hc1.out W hE
              go_simp
              exact hK _ _ (Ext.refl _) (fun _ => rfl)
            · intro S W K hE hf hd hK
              have f0 : S.tmps.getD 0 undef = .slice (some ad) l.length c := hf 0 (by kernel_rfl)
              refine want_free rfl ?_
              rw [Array.getD_eq_getD_getElem?] at f0
              go_simp
              exact hK _ _ (Ext.refl _) (fun _ => rfl)
            · intro S W K hE hf hd hK
              have d37 : S.tmps.getD 37 undef = (.slice (some ad) l.length c) := hd 3 _ rfl (by kernel_rfl)
              refine want_free rfl ?_
              rw [Array.getD_eq_getD_getElem?] at d37
              go_simp
              exact hK _ _ (Ext.refl _) (fun _ => rfl)
            · intro S W K hE hf hd hK
              have d38 : S.tmps.getD 38 undef = (.pointer (some ad)) := hd 4 _ rfl (by kernel_rfl)
              refine want_free rfl ?_
              rw [Array.getD_eq_getD_getElem?] at d38
              go_simp
              exact hK _ _ (Ext.refl _) (fun _ => rfl)
            · intro S W K hE hf hd hK
              have d39 : S.tmps.getD 39 undef = (.pointer (some ⟨ad.block, ad.off + 6, none⟩)) := hd 5 _ rfl (by kernel_rfl)
              refine want_free rfl ?_
              rw [Array.getD_eq_getD_getElem?] at d39
              obtain ⟨k0, k1, k2, k3, k4, k5, k6⟩ := Hc1.out W hE
              go_simp
              exact hK _ _ (Ext.refl _) (fun _ => rfl)
            · intro S W K hE hf hd hK
              have d40 : S.tmps.getD 40 undef = (.slice A1 b0.l.length c1) := hd 6 _ rfl (by kernel_rfl)
              refine want_free rfl ?_
              rw [Array.getD_eq_getD_getElem?] at d40
              go_simp
              exact hK _ _ (Ext.refl _) (fun _ => rfl)
            · intro S W K hE hf hd hK
              have d36 : S.tmps.getD 36 undef = (.agg #[.int .i64 b0.base, .int .i64 b0.pid, .int .i64 b0.epoch, .int .i64 b0.seq, .int .i64 b0.kind, .int .i64 b0.time, .slice A1 b0.l.length c1]) := hd 2 _ rfl (by kernel_rfl)
              have d41 : S.tmps.getD 41 undef = (.int .i64 b0.l.length) := hd 7 _ rfl (by kernel_rfl)
              refine want_free rfl ?_
              rw [Array.getD_eq_getD_getElem?] at d36 d41
              go_simp
              refine (Hpc.out W hE).mono ?_
              rintro e W' ⟨A9, c9, rfl, ho9, hb9⟩
              exact hK _ _ hb9 (fun _ => ⟨A9, c9, rfl, ho9.lower hE.size⟩)
            · intro S W K hE hf hd hK
              refine want_free rfl ?_
              go_simp
              exact hK _ _ (Ext.alloc _ _) (fun _ => ⟨W.heap.size, rfl, hE.size, (one_new _ _).1⟩)
          · intro vs W hE hV
            have v0 : vs 0 = (.slice (some ad) l.length c) := hV 0 _ rfl (fun h => by cases h)
            have v1 : vs 1 = (.pointer (some ad)) := hV 1 _ rfl (fun h => by cases h)
            have v2 : vs 2 = (.agg #[.int .i64 b0.base, .int .i64 b0.pid, .int .i64 b0.epoch, .int .i64 b0.seq, .int .i64 b0.kind, .int .i64 b0.time, .slice A1 b0.l.length c1]) := hV 2 _ rfl (fun h => by cases h)
            have v3 : vs 3 = (.slice (some ad) l.length c) := hV 3 _ rfl (fun h => by cases h)
            have v4 : vs 4 = (.pointer (some ad)) := hV 4 _ rfl (fun h => by cases h)
            have v5 : vs 5 = (.pointer (some ⟨ad.block, ad.off + 6, none⟩)) := hV 5 _ rfl (fun h => by cases h)
            have v6 : vs 6 = (.slice A1 b0.l.length c1) := hV 6 _ rfl (fun h => by cases h)
            have v7 : vs 7 = (.int .i64 b0.l.length) := hV 7 _ rfl (fun h => by cases h)
            have v8 := hV 8 _ rfl (fun h => by cases h)
            have v9 := hV 9 _ rfl (fun h => by cases h)
            clear hV
            set_option maxRecDepth 100000 in simp only [putAll, List.take_succ_cons, List.take_zero, List.drop_succ_cons, List.drop_zero, List.map_cons, List.map_nil, List.length_cons, List.length_nil, Nat.reduceAdd, List.range_succ, List.range_zero, List.nil_append, List.cons_append]
            set_option maxRecDepth 100000 in go_simp
            obtain ⟨A9, c9, e9, ho9⟩ := (show ∃ A c, vs 8 = .agg (btC b0 A c) ∧ Own recK 54 W wr.heap.size (fun _ => False) (.slice A b0.l.length c) b0.l from v8)
            obtain ⟨g, eg, hgl, hgj⟩ := (show ∃ g, vs 9 = .pointer (some ⟨g, 0, none⟩) ∧ wr.heap.size ≤ g ∧ W.heap[g]? = some (.cells #[.int .i64 0, .int .i64 0, .int .i64 0, .int .i64 0, .int .i64 0, .int .i64 0, .slice none 0 0] 24 (0, 0)) from v9)
            have hne9 := own_far ho9 hgj
            have h2W := (hE.block w.heap.size (by omega)).trans h2r
            have hEW := Ext.trans _ _ _ hEr hE
            have hsW := hE.size
            rw [e9, eg]
            clear v0 v1 v2 v3 v4 v5 v6 v7 v8 v9 e9 eg Hc1 Hpc h2r hEr
            clear hE
            go_upto_region 14 with (refine gate_op (p := .store 24 (.tmp 7) (.tmp 42)) rfl ?_; go_must (refine put_row rfl 24 (.tmp 7) (.tmp 42) rfl g (btC b0 A9 c9) rfl rfl _ _ hgj size_bt rfl (btC_one _ _ _) ?_; intro w8 hp8; have H8 := Lib.hid (And.intro (hp8.own ho9 hne9 (fun _ h => h.elim)) (And.intro hp8.obj (And.intro ((hp8.block _ (by omega)).trans h2W) (And.intro (hp8.below hEW (by omega)) hp8.size)))); clear hp8))
            obtain ⟨ho8, hj8, h28, hE8, hs8⟩ := H8.out
            clear H8 hgj ho9 h2W hEW
            go_loopw [45] (fun i wr => ∃ (k : Nat) (Al : Option Addr) (cl : Nat) (L : List Rc), k ≤ l.length ∧ i = .int .i64 k ∧ Hid (MInv l k ∧ L = catL (l.take (max k 1))) ∧ L.length ≤ 1000000 ∧ Own recK 54 wr (w.heap.size + 1) (fun _ => False) (.slice Al L.length cl) L ∧ Hid (∀ k, (Value.slice Al L.length cl).ownBlock = some k → k ≠ g) ∧ wr.heap[g]? = some (.cells (btC { b0 with l := L } Al cl) 24 (0, 0)) ∧ wr.heap[w.heap.size]? = some (.cells #[.int .i64 0, .int .i64 0, .int .i64 0, .int .i64 0, .int .i64 0, .int .i64 0, .slice none 0 0] 24 (0, 0)) ∧ Ext w wr) (fun i _ => l.length - (intOf i).toNat)
            case atStart => exact ⟨0, A9, c9, b0.l, Nat.zero_le _, rfl, Lib.hid ⟨minv_zero l, Hcat1.out.symm⟩, by omega, ho8.lower hsr, Lib.hid hne9, hj8, h28, hE8⟩
            case round =>
              obtain ⟨k, Al, cl, L, hk, rfl, HI, hLl, ho, Hne, hgj, h2, hE0⟩ := hrel
              have hwg : w.heap.size < g := by omega
              clear ho8 hj8 h28 hE8 hs8 hsr hne9
              have hws : w.heap.size < wr.heap.size := (Array.getElem?_eq_some_iff.1 h2).1
              have hgr : g < wr.heap.size := (Array.getElem?_eq_some_iff.1 hgj).1
              by_cases hlt : k < l.length
              · have hlti : (k : Int) < (l.length : Int) := by omega
                obtain ⟨ad2, A2, c2, e2, _, hcl2, hok2, hlc2, hrow2⟩ := bt_at (Hrow.out wr hE0) k hlt
                injection e2 with e2
                subst e2
                have hbe := atB_eq hlt
                have hbl2 := hb _ (List.getElem_mem hlt)
                have hv2 := firstE_all Hf.out _ (List.getElem_mem hlt)
                have hn2 := ((validE_iff _).1 hv2).nums
                rw [← hbe] at hcl2 hok2 hlc2 hrow2 hbl2 hn2
                have Hmark := Lib.hid (fun h => @chain_mark l k h1l hlt h)
                have Hoff := Lib.hid (fun h0 hm ho => minv_off HI.out.1 h0 hlt hn2.pid.1 hm ho)
                have Hstep := Lib.hid (fun h0 hm ho => minv_step HI.out.1 h0 hlt hn2.pid.1 hm ho)
                have Hfirst := Lib.hid (fun hm => @minv_first l hpos hm)
                have Hcs := Lib.hid (catL_snoc (l := l) (k := k) hlt)
                have Hcl := Lib.hid (catL_le hl hb (k + 1))
                have Hkk := Lib.hid (show k = 0 → atB l k = b0 from fun h => by rw [h]; exact Hat0.out)
                obtain ⟨b, hbb⟩ : ∃ b, b = atB l k := ⟨_, rfl⟩
                rw [← hbb] at hcl2 hok2 hlc2 hrow2 hbl2 hn2 Hoff Hstep Hcs Hkk Hmark
                clear hbe hv2
                have HB := Lib.hid hbb
                clear hbb
                obtain ⟨c0, c1, c2', c3, c4, c5, c6⟩ := hcl2
                go_upto_region 16 with (refine gate_op (p := .store 24 (.tmp 9) (.tmp 49)) rfl ?_; go_must (refine put_row rfl 24 (.tmp 9) (.tmp 49) rfl wr.heap.size (btC b A2 c2) rfl rfl _ _ (one_new _ _).1 size_bt rfl (btC_one _ _ _) ?_; intro w5 hp5; have hE5 : Ext wr w5 := hp5.below (one_new _ _).2.1 (Nat.le_refl _); have H5 := Lib.hid (And.intro hE5 hp5.obj); clear hE5 hp5))
                clear c0 c1 c2' c3 c4 c5 c6
                obtain ⟨hE5, hj5⟩ := H5.out
                have Hmk := Lib.hid (Rmark_calls w5 b A2 c2)
                unfold btC at hj5 Hmk
                have k0 := (cell_of hj5 0).trans rfl
                have k1 := (cell_of hj5 1).trans rfl
                have k2 := (cell_of hj5 2).trans rfl
                have k3 := (cell_of hj5 3).trans rfl
                have k4 := (cell_of hj5 4).trans rfl
                have k5 := (cell_of hj5 5).trans rfl
                have k6 := (cell_of hj5 6).trans rfl
                go_wp2_with fail
                refine Hmk.out.mono ?_
                rintro e w6 ⟨rfl, hE6⟩
                clear k0 k1 k2 k3 k4 k5 k6
                have hE56 := Ext.trans _ _ _ hE5 hE6
                have hs5 : wr.heap.size < w5.heap.size := (Array.getElem?_eq_some_iff.1 hj5).1
                have hs6 := hE6.size
                have hj6 := (hE6.block wr.heap.size hs5).trans hj5
                have hg6 := (hE56.block g hgr).trans hgj
                have h26 := (hE56.block w.heap.size (by omega)).trans h2
                have hE6w := Ext.trans _ _ _ hE0 hE56
                have ho6 := ho.below hE56
                have hrow6 := hrow2.belowF (fun _ h => Nat.lt_of_lt_of_le h hE0.size) hE56
                clear hj5 hgj h2 hE5 hE6 hE56 H5 Hmk ho hrow2
                obtain ⟨mk, hmk⟩ : ∃ mk, mk = markB b := ⟨_, rfl⟩
                rw [← hmk]
                rw [← hmk] at Hmark Hoff Hstep
                have HM := Lib.hid hmk
                clear hmk
                cases mk with
                | true =>
                  have Hqn := Lib.hid (show Q = (btNone, 2) from by rw [HQ.out, merge_arg h1l Hf.out (Hmark.out (by trivial))])
                  go_wp2_with (refine gate_op (p := .store 24 (.tmp 2) (.tmp 52)) rfl ?_; go_must (refine put_row rfl 24 (.tmp 2) (.tmp 52) rfl w.heap.size #[.int .i64 0, .int .i64 0, .int .i64 0, .int .i64 0, .int .i64 0, .int .i64 0, .slice none 0 0] rfl rfl _ _ h26 size_bt rfl (btC_one btNone none 0) ?_; intro wf hpf))
                  refine bodyPost_ret (results_row2 rfl _ _ w.heap.size _ _ _ _ rfl hpf.obj Try.underlying24 rfl size_bt) rfl ?_
                  exact rmerge_nil (hpf.below hE6w (Nat.le_refl _)) Hqn.out
                | false =>
                  have hmkf : Hid (∀ x : Unit, (false : Bool) = false) := Lib.hid (fun _ => rfl)
                  by_cases hk0 : k = 0
                  · have hk0b : ((k : Int) == 0) = true := by rw [hk0]; rfl
                    have Hb0 := Lib.hid (Hkk.out hk0)
                    have HL1 := Lib.hid (show L = catL (l.take (max (k + 1) 1)) from by rw [HI.out.2, hk0]; rfl)
                    have HI1 := Lib.hid (show MInv l (k + 1) from by rw [hk0]; exact Hfirst.out (by have := HM.out; rw [HB.out, hk0] at this; exact this.symm))
                    clear hk0
                    go_wp2
                    go_roundw
                    case rel => exact ⟨k + 1, Al, cl, L, hlt, by go_num, Lib.hid ⟨HI1.out, HL1.out⟩, hLl, ho6, Hne, hg6, h26, hE6w⟩
                    case measure => simp [intOf]; omega
                  · have hk0b : ((k : Int) == 0) = false := by rw [beq_eq_false_iff_ne]; omega
                    have hkp : 0 < k := by omega
                    have HLk := Lib.hid (show L = catL (l.take k) from by rw [HI.out.2, Nat.max_eq_left hkp])
                    obtain ⟨tB, htB⟩ : ∃ t, t = offB b0 b L.length := ⟨_, rfl⟩
                    have hT := htB
                    unfold offB at hT
                    have HT := Lib.hid hT
                    have HtB := Lib.hid htB
                    have Hbad := Lib.hid (fun (h : offB b0 b L.length = true) => Hoff.out hkp (by first | rfl | trivial) (by rw [Hat0.out, ← HLk.out]; exact h))
                    have Hgo := Lib.hid (fun (h : offB b0 b L.length = false) => Hstep.out hkp (by first | rfl | trivial) (by rw [Hat0.out, ← HLk.out]; exact h))
                    have HL2 := Lib.hid (show catL (l.take (max (k + 1) 1)) = L ++ b.l from by rw [Nat.max_eq_left (by omega), Hcs.out, ← HLk.out])
                    have HLL := Lib.hid (show (L ++ b.l).length ≤ 1000000 from by rw [HLk.out, ← Hcs.out]; exact Hcl.out)
                    clear hT htB hk0
                    unfold btC at hg6
                    simp only at hg6
                    have k0 := (cell_of hj6 0).trans rfl
                    have k1 := (cell_of hj6 1).trans rfl
                    have k2 := (cell_of hj6 2).trans rfl
                    have k3 := (cell_of hj6 3).trans rfl
                    have k4 := (cell_of hj6 4).trans rfl
                    have k5 := (cell_of hj6 5).trans rfl
                    have k6 := (cell_of hj6 6).trans rfl
                    have q0 := (cell_of hg6 0).trans rfl
                    have q1 := (cell_of hg6 1).trans rfl
                    have q2 := (cell_of hg6 2).trans rfl
                    have q3 := (cell_of hg6 3).trans rfl
                    have q4 := (cell_of hg6 4).trans rfl
                    have q5 := (cell_of hg6 5).trans rfl
                    have q6 := (cell_of hg6 6).trans rfl
                    have hnb := hnum.base
                    have hns := hnum.seq
                    go_upto_region 19 with fail
                    go_cut [107] (fun v wx => w6 = wx ∧ v = .bool tB)
                    case first =>
                      go_wp2
                      all_goals go_meet
                      all_goals exact ⟨rfl, congrArg Value.bool (by clear hb Hoff; rw [HT.out, Bool.eq_iff_iff]; simp_all <;> omega)⟩
                    case rest =>
                      obtain ⟨rfl, rfl⟩ := hcut
                      cases tB with
                      | true =>
                        have Hqn := Lib.hid (show Q = (btNone, 2) from by rw [HQ.out, merge_arg h1l Hf.out (Hbad.out HtB.out.symm)])
                        clear k0 k1 k2 k3 k4 k5 k6
                        clear q0 q1 q2 q3 q4 q5 q6
                        go_wp2_with (refine gate_op (p := .store 24 (.tmp 2) (.tmp 108)) rfl ?_; go_must (refine put_row rfl 24 (.tmp 2) (.tmp 108) rfl w.heap.size #[.int .i64 0, .int .i64 0, .int .i64 0, .int .i64 0, .int .i64 0, .int .i64 0, .slice none 0 0] rfl rfl _ _ h26 size_bt rfl (btC_one btNone none 0) ?_; intro wf hpf))
                        refine bodyPost_ret (results_row2 rfl _ _ w.heap.size _ _ _ _ rfl hpf.obj Try.underlying24 rfl size_bt) rfl ?_
                        exact rmerge_nil (hpf.below hE6w (Nat.le_refl _)) Hqn.out
                      | false =>
                        have HI2 := Lib.hid (Hgo.out HtB.out.symm)
                        have hsl2 : Sl recK w6 (fun k => k < w.heap.size) (.slice A2 b.l.length c2) b.l := ⟨A2, c2, rfl, hlc2.1, hlc2.2, hrow6⟩
                        have Hlast := Lib.hid (And.intro hg6 (And.intro h26 (And.intro hE6w (And.intro hs5 hs6))))
                        clear k0 k1 k2 k3 k4 k5
                        clear q0 q1 q2 q3 q4 q5
                        clear hj6 hg6 h26 hE6w
                        have hwb := HLL.out
                        rw [List.length_append] at hwb
                        go_wp2_with (first
                          | (at_builtin; go_must (refine app_flat recK flat_rec (w.heap.size + 1) rfl (.tmp 110) (.tmp 112) 22 54 48 rfl Try.underlying22 info_rec (.slice Al L.length cl) (.slice A2 b.l.length c2) L b.l (fun _ => False) _ rfl rfl ho6 hsl2 (by omega) (by simp only [maxLen]; omega) (by have := Hlast.out.2.2.2; omega) ?_; intro v11 w11 ho11 hg11 ha11; obtain ⟨L2, hL2⟩ : ∃ L2, L2 = L ++ b.l := ⟨_, rfl⟩; rw [← hL2] at ho11; have HL3 := Lib.hid (HL2.out.trans hL2.symm); have HLN := Lib.hid (show L2.length ≤ 1000000 from by rw [hL2]; exact HLL.out); clear hL2; obtain ⟨A11, c11, e11, l11, m11⟩ := ho11.slice; subst e11; have hgg := (hg11.block g (by have := Hlast.out.2.2.2; omega) (fun e => Hne.out g e.symm rfl)).trans Hlast.out.1; have H11 := Lib.hid (And.intro ho11 (And.intro hg11 ha11)); clear ho11 hg11 ha11))
                          | (refine gate_op (p := .store 22 (.tmp 115) (.tmp 114)) rfl ?_; go_must (refine put_cell rfl 22 (.tmp 115) (.tmp 114) rfl g 6 (.slice A11 L2.length c11) rfl rfl rfl _ _ hgg size_sl (show 6 < 7 by decide) ?_; intro w12 hp12)))
                        have hne12 : ∀ k, (Value.slice A11 L2.length c11).ownBlock = some k → k ≠ g := fun k hk => by
                          rcases H11.out.2.2 with h5 | h5
                          · exact Hne.out k (h5 ▸ hk)
                          · rw [h5] at hk
                            injection hk with hk
                            have := Hlast.out.2.2.2
                            omega
                        have hgr11 := H11.out.2.1
                        have hown := ho6.at (k := w.heap.size)
                        have h2l := (hp12.block w.heap.size (by omega)).trans ((hgr11.block w.heap.size (by have := Hlast.out.2.2.2; omega) (fun e => by have := (hown e.symm).1; omega)).trans Hlast.out.2.1)
                        have hE12 := hp12.below (Below.grown Hlast.out.2.2.1 hgr11 (by have := Hlast.out.2.2.2; omega) (fun k hk => by have := (ho6.at hk).1; omega)) (show w.heap.size ≤ g by omega)
                        have ho12 := hp12.own H11.out.1 hne12 (fun _ h => h.elim)
                        go_roundw
                        case rel => exact ⟨k + 1, A11, c11, L2, hlt, by go_num, Lib.hid ⟨HI2.out, HL3.out.symm⟩, HLN.out, ho12, Lib.hid hne12, hp12.obj, h2l, hE12⟩
                        case measure => simp [intOf]; omega
              · obtain rfl : k = l.length := by omega
                have HLf := Lib.hid (show L = catL l from by rw [HI.out.2, Nat.max_eq_left hpos, List.take_length])
                have hnei : ¬ (l.length : Int) < (l.length : Int) := by omega
                unfold btC at hgj
                simp only at hgj
                have k0 := (cell_of hgj 0).trans rfl
                have k1 := (cell_of hgj 1).trans rfl
                have k2 := (cell_of hgj 2).trans rfl
                have k3 := (cell_of hgj 3).trans rfl
                have k4 := (cell_of hgj 4).trans rfl
                have k5 := (cell_of hgj 5).trans rfl
                have k6 := (cell_of hgj 6).trans rfl
                clear hgj
                by_cases h64 : 64 < L.length
                · have h64i : (64 : Int) < (L.length : Int) := by omega
                  have Hqn := Lib.hid (show Q = (btNone, 7) from by rw [HQ.out, merge_long h1l Hf.out HI.out.1.ch (by rw [← HLf.out]; exact h64)])
                  go_upto_region 25 with fail
                  clear k0 k1 k2 k3 k4 k5 k6
                  go_wp2_with (refine gate_op (p := .store 24 (.tmp 2) (.tmp 121)) rfl ?_; go_must (refine put_row rfl 24 (.tmp 2) (.tmp 121) rfl w.heap.size #[.int .i64 0, .int .i64 0, .int .i64 0, .int .i64 0, .int .i64 0, .int .i64 0, .slice none 0 0] rfl rfl _ _ h2 size_bt rfl (btC_one btNone none 0) ?_; intro wf hpf))
                  refine bodyPost_ret (results_row2 rfl _ _ w.heap.size _ _ _ _ rfl hpf.obj Try.underlying24 rfl size_bt) rfl ?_
                  exact rmerge_nil (hpf.below hE0 (Nat.le_refl _)) Hqn.out
                · have h64i : ¬ (64 : Int) < (L.length : Int) := by omega
                  have Hqn := Lib.hid (show Q = ({ b0 with l := L }, 0) from by rw [HQ.out, merge_all h1l Hf.out HI.out.1.ch (by rw [← HLf.out]; exact h64), Hat0.out, HLf.out])
                  go_wp2_with (refine gate_op (p := .store 24 (.tmp 2) (.tmp 122)) rfl ?_; go_must (refine put_row rfl 24 (.tmp 2) (.tmp 122) rfl w.heap.size (btC { b0 with l := L } Al cl) rfl rfl _ _ h2 size_bt rfl (btC_one _ _ _) ?_; intro wf hpf))
                  refine bodyPost_ret (results_row2 rfl _ _ w.heap.size _ _ _ _ rfl hpf.obj Try.underlying24 rfl size_bt) rfl ?_
                  exact ⟨{ b0 with l := L }, Al, cl, 0, rfl, (btAt_own (b := { b0 with l := L }) ⟨Hok0.out.base, Hok0.out.pid, Hok0.out.epoch, Hok0.out.seq, Hok0.out.kind, Hok0.out.time⟩ (hpf.own ho (fun k hk => by have := (ho.at hk).1; omega) (fun _ h => h.elim))), hpf.below hE0 (Nat.le_refl _), Hqn.out⟩
end Go.Proofs.Ytaomhedjamnloaa
