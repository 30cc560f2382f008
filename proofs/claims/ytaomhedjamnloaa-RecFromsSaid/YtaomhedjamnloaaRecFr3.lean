/- Contract: the document's From. -/
import Derived.Test.YtaomhedjamnloaaRecFr2
import Derived.IntWalk
set_option linter.unusedVariables false
set_option linter.unusedSimpArgs false
namespace Go.Proofs.Ytaomhedjamnloaa
open Go Go.RowKit

def RFromPost (w : World) (p : BtM × Bool) (e : Ending) (w' : World) : Prop :=
  ∃ y A c, e = .returned (.tuple #[.agg (btC y A c), .bool p.2]) ∧ y = p.1 ∧ BtAt w' w'.heap.size y A c ∧ Ext w w'
theorem rfrom_none {w w' : World} {p : BtM × Bool} (hE : Ext w w') (h : p = (btNone, false)) : RFromPost w p (.returned (.tuple #[.agg #[.int .i64 0, .int .i64 0, .int .i64 0, .int .i64 0, .int .i64 0, .int .i64 0, .slice none 0 0], .bool false])) w' :=
  ⟨btNone, none, 0, by rw [h]; rfl, by rw [h], ⟨rzero_ok, ⟨Nat.le_refl _, Nat.zero_le _⟩, Row.nil _ _ _ _⟩, hE⟩
set_option maxRecDepth 8000 in
set_option maxHeartbeats 4000000 in
theorem Rfrom_calls (w : World) (B : Nat) (hB : B ≤ w.heap.size) (b : BtM) (A : Option Addr) (c : Nat) (h : BtAt w B b A c) (hl : b.l.length ≤ 1000) (at_ : Int) (ha : -9223372036854775808 ≤ at_ ∧ at_ ≤ 9223372036854775807) :
    Calls Try.prog 31 #[.agg (btC b A c), .int .i64 at_] w (RFromPost w (fromB b at_)) := by
  obtain ⟨p1, p2, hE2, hs2⟩ := two_new w (.cells (btC b A c) 24) (.cells (btC btNone none 0) 24)
  have Hbt := Lib.hid (fun W (hE : Ext w W) => (h.up hB).below hE)
  have Hv := Lib.hid (fun W (hE : Ext w W) => Rvalid_calls W w.heap.size hE.size b A c (Hbt.out W hE))
  have Hn := Lib.hid (fun W => RSpan_calls W b A c)
  have Hm := Lib.hid (fun W => Rmark_calls W b A c)
  obtain ⟨Q, hQ⟩ : ∃ q, q = fromB b at_ := ⟨_, rfl⟩
  rw [← hQ]
  have HQ := Lib.hid hQ
  have HJ := Lib.hid (fun W (hE : Ext ((w.alloc (.cells (btC b A c) 24)).alloc (.cells (btC btNone none 0) 24)) W) => (⟨(hE.block w.heap.size (by omega)).trans p1⟩ : BtObj W w.heap.size b A b.l.length c))
  unfold btC btNone at p1 p2 hE2 hs2 HJ
  unfold btC at Hv Hn Hm
  unfold btC
  simp only [List.length_nil] at p1 p2 hE2 hs2 HJ
  clear hQ h
  go_enter Try.func31, Try.ntmps31
  go_upto_region 1 with fail
  generalize (w.alloc _).alloc _ = w2 at *
  by_cases hv : validE b = 0
  · have hf := (validE_iff b).1 hv
    have hnb := hf.nums.base
    have hns := hf.nums.seq
    have hsp : spanN b ≤ 1000 := by
      unfold spanN
      split <;> omega
    have HV := Lib.hid hv
    rw [hv] at Hv
    obtain ⟨sp, hsp2⟩ : ∃ sp, sp = spanN b := ⟨_, rfl⟩
    rw [← hsp2] at Hn hsp
    have HNX := Lib.hid (show nextB b = b.base + (sp : Int) from by unfold nextB; rw [if_pos hv, hsp2])
    have HSP := Lib.hid hsp2
    clear hf hv hsp2
    have kw1 : IntKind.i64.wrap (b.base + (sp : Int)) = b.base + (sp : Int) := IntWalk.i64_in _ ⟨by omega, by omega⟩
    have kw2 : IntKind.i64.wrap (b.base + (sp : Int) - 1) = b.base + (sp : Int) - 1 := IntWalk.i64_in _ ⟨by omega, by omega⟩
    refine wp_region_steps [.eq (.agg #[.int .i64 b.base, .int .i64 b.pid, .int .i64 b.epoch, .int .i64 b.seq, .int .i64 b.kind, .int .i64 b.time, .slice A b.l.length c]), .eq (.int .i64 0), .eq (.bool false), .eq (.bool false), .eq (.int .i64 at_), .eq (.pointer (some ⟨w.heap.size, 0, none⟩)), .eq (.int .i64 b.base), .eq (.agg #[.int .i64 b.base, .int .i64 b.pid, .int .i64 b.epoch, .int .i64 b.seq, .int .i64 b.kind, .int .i64 b.time, .slice A b.l.length c]), .eq (.int .i64 (sp : Int)), .eq (.int .i64 (b.base + (sp : Int))), .eq (.int .i64 (b.base + (sp : Int) - 1)), .eq (.bool (decide (b.base + (sp : Int) - 1 < at_))), .eq (.bool (decide (b.base + (sp : Int) - 1 < at_)))] (by kernel_rfl) (by kernel_rfl) (all_dst (by kernel_rfl)) ?_ ?_
    · refine ⟨?_, ?_, ?_, ?_, ?_, ?_, ?_, ?_, ?_, ?_, ?_, ?_, ?_, trivial⟩
      · intro S W K hE hf hd hK
        have f2 : S.tmps.getD 2 undef = .pointer (some ⟨w.heap.size, 0, none⟩) := hf 2 (by kernel_rfl)
        refine want_free rfl ?_
        rw [Array.getD_eq_getD_getElem?] at f2
        obtain ⟨k0, k1, k2, k3, k4, k5, k6⟩ := (HJ.out W hE).cells
        go_simp
        exact hK _ _ (Ext.refl _) (fun _ => rfl)
      · intro S W K hE hf hd hK
        have d7 : S.tmps.getD 7 undef = (.agg #[.int .i64 b.base, .int .i64 b.pid, .int .i64 b.epoch, .int .i64 b.seq, .int .i64 b.kind, .int .i64 b.time, .slice A b.l.length c]) := hd 0 _ rfl (by kernel_rfl)
        refine want_free rfl ?_
        rw [Array.getD_eq_getD_getElem?] at d7
        go_simp
        refine (Hv.out W (Ext.trans _ _ _ hE2 hE)).mono ?_
        rintro e W' ⟨rfl, hb⟩
        exact hK _ _ hb (fun _ => rfl)
      · intro S W K hE hf hd hK
        have d8 : S.tmps.getD 8 undef = (.int .i64 0) := hd 1 _ rfl (by kernel_rfl)
        refine want_free rfl ?_
        rw [Array.getD_eq_getD_getElem?] at d8
        go_simp
        exact hK _ _ (Ext.refl _) (fun _ => rfl)
      · intro S W K hE hf hd hK
        have d9 : S.tmps.getD 9 undef = (.bool false) := hd 2 _ rfl (by kernel_rfl)
        refine want_free rfl ?_
        rw [Array.getD_eq_getD_getElem?] at d9
        go_simp
        exact hK _ _ (Ext.refl _) (fun _ => rfl)
      · intro S W K hE hf hd hK
        have f1 : S.tmps.getD 1 undef = .int .i64 at_ := hf 1 (by kernel_rfl)
        have d10 : S.tmps.getD 10 undef = (.bool false) := hd 3 _ rfl (by kernel_rfl)
        refine want_then (t := 10) d10 rfl rfl rfl ?_
        rw [Array.getD_eq_getD_getElem?] at f1 d10
        go_simp
        exact hK _ _ (Ext.refl _) (fun _ => rfl)
      · intro S W K hE hf hd hK
        have f2 : S.tmps.getD 2 undef = .pointer (some ⟨w.heap.size, 0, none⟩) := hf 2 (by kernel_rfl)
        have d10 : S.tmps.getD 10 undef = (.bool false) := hd 3 _ rfl (by kernel_rfl)
        refine want_then (t := 10) d10 rfl rfl rfl ?_
        rw [Array.getD_eq_getD_getElem?] at f2 d10
        go_simp
        exact hK _ _ (Ext.refl _) (fun _ => rfl)
      · intro S W K hE hf hd hK
        have d12 : S.tmps.getD 12 undef = (.pointer (some ⟨w.heap.size, 0, none⟩)) := hd 5 _ rfl (by kernel_rfl)
        have d10 : S.tmps.getD 10 undef = (.bool false) := hd 3 _ rfl (by kernel_rfl)
        refine want_then (t := 10) d10 rfl rfl rfl ?_
        rw [Array.getD_eq_getD_getElem?] at d12 d10
        obtain ⟨k0, k1, k2, k3, k4, k5, k6⟩ := (HJ.out W hE).cells
        go_simp
        exact hK _ _ (Ext.refl _) (fun _ => rfl)
      · intro S W K hE hf hd hK
        have f2 : S.tmps.getD 2 undef = .pointer (some ⟨w.heap.size, 0, none⟩) := hf 2 (by kernel_rfl)
        have d10 : S.tmps.getD 10 undef = (.bool false) := hd 3 _ rfl (by kernel_rfl)
        refine want_then (t := 10) d10 rfl rfl rfl ?_
        rw [Array.getD_eq_getD_getElem?] at f2 d10
        obtain ⟨k0, k1, k2, k3, k4, k5, k6⟩ := (HJ.out W hE).cells
        go_simp
        exact hK _ _ (Ext.refl _) (fun _ => rfl)
      · intro S W K hE hf hd hK
        have d14 : S.tmps.getD 14 undef = (.agg #[.int .i64 b.base, .int .i64 b.pid, .int .i64 b.epoch, .int .i64 b.seq, .int .i64 b.kind, .int .i64 b.time, .slice A b.l.length c]) := hd 7 _ rfl (by kernel_rfl)
        have d10 : S.tmps.getD 10 undef = (.bool false) := hd 3 _ rfl (by kernel_rfl)
        refine want_then (t := 10) d10 rfl rfl rfl ?_
        rw [Array.getD_eq_getD_getElem?] at d14 d10
        go_simp
        refine (Hn.out W).mono ?_
        rintro e W' ⟨rfl, hb⟩
        exact hK _ _ hb (fun _ => rfl)
      · intro S W K hE hf hd hK
        have d13 : S.tmps.getD 13 undef = (.int .i64 b.base) := hd 6 _ rfl (by kernel_rfl)
        have d15 : S.tmps.getD 15 undef = (.int .i64 (sp : Int)) := hd 8 _ rfl (by kernel_rfl)
        have d10 : S.tmps.getD 10 undef = (.bool false) := hd 3 _ rfl (by kernel_rfl)
        refine want_then (t := 10) d10 rfl rfl rfl ?_
        rw [Array.getD_eq_getD_getElem?] at d13 d15 d10
        go_simp
        exact hK _ _ (Ext.refl _) (fun _ => rfl)
      · intro S W K hE hf hd hK
        have d16 : S.tmps.getD 16 undef = (.int .i64 (b.base + (sp : Int))) := hd 9 _ rfl (by kernel_rfl)
        have d10 : S.tmps.getD 10 undef = (.bool false) := hd 3 _ rfl (by kernel_rfl)
        refine want_then (t := 10) d10 rfl rfl rfl ?_
        rw [Array.getD_eq_getD_getElem?] at d16 d10
        go_simp
        exact hK _ _ (Ext.refl _) (fun _ => rfl)
      · intro S W K hE hf hd hK
        have d11 : S.tmps.getD 11 undef = (.int .i64 at_) := hd 4 _ rfl (by kernel_rfl)
        have d17 : S.tmps.getD 17 undef = (.int .i64 (b.base + (sp : Int) - 1)) := hd 10 _ rfl (by kernel_rfl)
        have d10 : S.tmps.getD 10 undef = (.bool false) := hd 3 _ rfl (by kernel_rfl)
        refine want_then (t := 10) d10 rfl rfl rfl ?_
        rw [Array.getD_eq_getD_getElem?] at d11 d17 d10
        go_simp
        exact hK _ _ (Ext.refl _) (fun _ => rfl)
      · intro S W K hE hf hd hK
        have d10 : S.tmps.getD 10 undef = (.bool false) := hd 3 _ rfl (by kernel_rfl)
        have d18 : S.tmps.getD 18 undef = (.bool (decide (b.base + (sp : Int) - 1 < at_))) := hd 11 _ rfl (by kernel_rfl)
        refine want_free rfl ?_
        rw [Array.getD_eq_getD_getElem?] at d10 d18
        go_simp
        exact hK _ _ (Ext.refl _) (fun _ => rfl)
    · intro vs W hE hV
      have v0 : vs 0 = (.agg #[.int .i64 b.base, .int .i64 b.pid, .int .i64 b.epoch, .int .i64 b.seq, .int .i64 b.kind, .int .i64 b.time, .slice A b.l.length c]) := hV 0 _ rfl (fun h => by cases h)
      have v1 : vs 1 = (.int .i64 0) := hV 1 _ rfl (fun h => by cases h)
      have v2 : vs 2 = (.bool false) := hV 2 _ rfl (fun h => by cases h)
      have v3 : vs 3 = (.bool false) := hV 3 _ rfl (fun h => by cases h)
      have v4 : vs 4 = (.int .i64 at_) := hV 4 _ rfl (fun h => by cases h)
      have v5 : vs 5 = (.pointer (some ⟨w.heap.size, 0, none⟩)) := hV 5 _ rfl (fun h => by cases h)
      have v6 : vs 6 = (.int .i64 b.base) := hV 6 _ rfl (fun h => by cases h)
      have v7 : vs 7 = (.agg #[.int .i64 b.base, .int .i64 b.pid, .int .i64 b.epoch, .int .i64 b.seq, .int .i64 b.kind, .int .i64 b.time, .slice A b.l.length c]) := hV 7 _ rfl (fun h => by cases h)
      have v8 : vs 8 = (.int .i64 (sp : Int)) := hV 8 _ rfl (fun h => by cases h)
      have v9 : vs 9 = (.int .i64 (b.base + (sp : Int))) := hV 9 _ rfl (fun h => by cases h)
      have v10 : vs 10 = (.int .i64 (b.base + (sp : Int) - 1)) := hV 10 _ rfl (fun h => by cases h)
      have v11 : vs 11 = (.bool (decide (b.base + (sp : Int) - 1 < at_))) := hV 11 _ rfl (fun h => by cases h)
      have v12 : vs 12 = (.bool (decide (b.base + (sp : Int) - 1 < at_))) := hV 12 _ rfl (fun h => by cases h)
      clear hV
      set_option maxRecDepth 100000 in simp only [putAll, List.map_cons, List.map_nil, List.length_cons, List.length_nil, Nat.reduceAdd, List.range_succ, List.range_zero, List.nil_append, List.cons_append]
      set_option maxRecDepth 100000 in go_simp
      have p1W := (hE.block w.heap.size (by omega)).trans p1
      have p2W := (hE.block (w.heap.size + 1) (by omega)).trans p2
      have hEW := Ext.trans _ _ _ hE2 hE
      have hWs : w.heap.size + 2 ≤ W.heap.size := by have := hE.size; omega
      clear p1 p2 hE2 hs2 v0 v1 v2 v3 v4 v5 v6 v7 v8 v9 v10 v11 v12 HJ Hv Hn kw1 kw2 hE
      by_cases hgt : b.base + (sp : Int) - 1 < at_
      · have Hqn := Lib.hid (show Q = (btNone, false) from by rw [HQ.out]; unfold fromB; rw [if_pos (.inr (by rw [HNX.out]; omega))])
        have hgd : decide (b.base + (sp : Int) - 1 < at_) = true := decide_eq_true hgt
        go_wp2_with (refine gate_op (p := .store 24 (.tmp 4) (.tmp 20)) rfl ?_; go_must (refine put_row rfl 24 (.tmp 4) (.tmp 20) rfl (w.heap.size + 1) #[.int .i64 0, .int .i64 0, .int .i64 0, .int .i64 0, .int .i64 0, .int .i64 0, .slice none 0 0] rfl rfl _ _ p2W size_bt rfl (btC_one btNone none 0) ?_; intro wf hpf))
        refine bodyPost_ret (results_row2 rfl _ _ (w.heap.size + 1) _ _ _ _ rfl hpf.obj Try.underlying24 rfl size_bt) rfl ?_
        exact rfrom_none (hpf.below hEW (by omega)) Hqn.out
      · have hgd : decide (b.base + (sp : Int) - 1 < at_) = false := decide_eq_false hgt
        have Hno := Lib.hid (show ¬ (validE b ≠ 0 ∨ nextB b ≤ at_) from fun h => by
          rcases h with h | h
          · exact h HV.out
          · rw [HNX.out] at h; omega)
        have k0 := (cell_of p1W 0).trans rfl
        have k1 := (cell_of p1W 1).trans rfl
        have k2 := (cell_of p1W 2).trans rfl
        have k3 := (cell_of p1W 3).trans rfl
        have k4 := (cell_of p1W 4).trans rfl
        have k5 := (cell_of p1W 5).trans rfl
        have k6 := (cell_of p1W 6).trans rfl
        go_wp2_with fail
        refine (Hm.out W).mono ?_
        rintro e w5 ⟨rfl, hE5⟩
        clear k0 k1 k2 k3 k4 k5 k6
        have p15 := (hE5.block w.heap.size (by omega)).trans p1W
        have p25 := (hE5.block (w.heap.size + 1) (by omega)).trans p2W
        have hE5w := Ext.trans _ _ _ hEW hE5
        have hs5 : w.heap.size + 2 ≤ w5.heap.size := by have := hE5.size; omega
        clear p1W p2W hEW hE5 hWs
        have k0 := (cell_of p15 0).trans rfl
        have k1 := (cell_of p15 1).trans rfl
        have k2 := (cell_of p15 2).trans rfl
        have k3 := (cell_of p15 3).trans rfl
        have k4 := (cell_of p15 4).trans rfl
        have k5 := (cell_of p15 5).trans rfl
        have k6 := (cell_of p15 6).trans rfl
        obtain ⟨mk, hmk⟩ : ∃ mk, mk = markB b := ⟨_, rfl⟩
        rw [← hmk]
        have HM := Lib.hid hmk
        have Hsl := Lib.hid (show mk = false → sp = b.l.length from fun h => by
          rw [HSP.out]
          unfold spanN
          rw [if_neg (by rw [← hmk, h]; decide)])
        clear hmk
        cases mk with
        | true =>
          have Hqn := Lib.hid (show Q = (b, true) from by rw [HQ.out]; unfold fromB; rw [if_neg Hno.out, if_pos (.inl HM.out.symm)])
          go_wp2_with (refine gate_op (p := .store 24 (.tmp 4) (.tmp 23)) rfl ?_; go_must (refine put_row rfl 24 (.tmp 4) (.tmp 23) rfl (w.heap.size + 1) (btC b A c) rfl rfl _ _ p25 size_bt rfl (btC_one _ _ _) ?_; intro wf hpf))
          refine bodyPost_ret (results_row2 rfl _ _ (w.heap.size + 1) _ _ _ _ rfl hpf.obj Try.underlying24 rfl size_bt) rfl ?_
          exact ⟨b, A, c, by rw [Hqn.out]; rfl, by rw [Hqn.out], ((Hbt.out w5 hE5w).below (hpf.below (Below.refl w.heap.size w5) (by omega))).up (by rw [hpf.size]; omega), hpf.below hE5w (by omega)⟩
        | false =>
          have hsl := Hsl.out (by first | rfl | trivial)
          obtain ⟨f, hf⟩ : ∃ f : Nat, f = (at_ - b.base).toNat := ⟨_, rfl⟩
          have hfl : f ≤ b.l.length := by omega
          have hfa : ∀ n : Nat, b.base + (n : Int) < at_ ↔ n < f := fun n => by omega
          have Hfa := Lib.hid hfa
          have Hqn := Lib.hid (show Q = (pieceB b f b.l.length, true) from by
            rw [HQ.out]
            unfold fromB
            rw [if_neg Hno.out]
            by_cases hle : at_ ≤ b.base
            · have e : f = 0 := by omega
              rw [if_pos (.inr hle), e, piece_all HV.out]
            · rw [if_neg (fun h => h.elim (fun h => by rw [← HM.out] at h; cases h) hle), hf])
          have Hpc := Lib.hid (Piece_calls w5 w.heap.size (by omega) b A c (Hbt.out w5 hE5w) f b.l.length hfl (Nat.le_refl _) hl hnb hns)
          unfold btC at Hpc
          clear hfa hf hsl Hsl Hno
          go_upto_region 6 with fail
          go_loop [6] (fun i => ∃ n : Nat, n ≤ f ∧ i = .int .i64 n) (fun i => f - (intOf i).toNat)
          case atStart => exact ⟨0, Nat.zero_le _, rfl⟩
          case round =>
            obtain ⟨n, hn, rfl⟩ := hrel
            by_cases hlt : n < f
            · have hlti : b.base + (n : Int) < at_ := (Hfa.out n).2 hlt
              go_wp2
              go_round
              case rel => exact ⟨n + 1, hlt, by go_num⟩
              case measure => simp [intOf]; omega
            · have hlti : ¬ b.base + (n : Int) < at_ := fun h => hlt ((Hfa.out n).1 h)
              obtain rfl : n = f := by omega
              go_wp2_with fail
              (with_reducible refine Hpc.out.mono ?_)
              rintro e w6 ⟨A6, c6, rfl, ho6, hE6⟩
              clear k0 k1 k2 k3 k4 k5 k6
              have p26 := (hE6.block (w.heap.size + 1) (by omega)).trans p25
              have Hok := Lib.hid (show BtOk (pieceB b n b.l.length) from by
                have h1 := (valid_ok HV.out)
                unfold pieceB
                refine ⟨?_, h1.pid, h1.epoch, ?_, h1.kind, h1.time⟩
                · constructor <;> simp only <;> omega
                · constructor <;> simp only <;> split <;> omega)
              generalize pieceB b n b.l.length = P at *
              go_wp2_with (refine gate_op (p := .store 24 (.tmp 4) (.tmp 37)) rfl ?_; go_must (refine put_row rfl 24 (.tmp 4) (.tmp 37) rfl (w.heap.size + 1) (btC P A6 c6) rfl rfl _ _ p26 size_bt rfl (btC_one _ _ _) ?_; intro wf hpf))
              refine bodyPost_ret (results_row2 rfl _ _ (w.heap.size + 1) _ _ _ _ rfl hpf.obj Try.underlying24 rfl size_bt) rfl ?_
              exact ⟨P, A6, c6, by rw [Hqn.out]; rfl, by rw [Hqn.out], btAt_own Hok.out (hpf.own ho6 (own_far ho6 p26) (fun _ h => h.elim)), hpf.below (Ext.trans _ _ _ hE5w hE6) (by omega)⟩
  · have Hqn := Lib.hid (show Q = (btNone, false) from by rw [HQ.out]; unfold fromB; rw [if_pos (.inl hv)])
    have hd : decide (validE b = 0) = false := decide_eq_false hv
    have hd2 : (validE b == 0) = false := by rw [beq_eq_false_iff_ne]; exact hv
    have hd3 : (validE b != 0) = true := by simpa using hv
    generalize validE b = v at *
    clear hv
    refine wp_region_steps [.eq (.agg #[.int .i64 b.base, .int .i64 b.pid, .int .i64 b.epoch, .int .i64 b.seq, .int .i64 b.kind, .int .i64 b.time, .slice A b.l.length c]), .eq (.int .i64 v), .eq (.bool true), .eq (.bool true), .eq undef, .eq undef, .eq undef, .eq undef, .eq undef, .eq undef, .eq undef, .eq undef, .eq (.bool true)] (by kernel_rfl) (by kernel_rfl) (all_dst (by kernel_rfl)) ?_ ?_
    · refine ⟨?_, ?_, ?_, ?_, ?_, ?_, ?_, ?_, ?_, ?_, ?_, ?_, ?_, trivial⟩
      · intro S W K hE hf hd hK
        have f2 : S.tmps.getD 2 undef = .pointer (some ⟨w.heap.size, 0, none⟩) := hf 2 (by kernel_rfl)
        refine want_free rfl ?_
        rw [Array.getD_eq_getD_getElem?] at f2
        obtain ⟨k0, k1, k2, k3, k4, k5, k6⟩ := (HJ.out W hE).cells
        go_simp
        exact hK _ _ (Ext.refl _) (fun _ => rfl)
      · intro S W K hE hf hd hK
        have d7 : S.tmps.getD 7 undef = (.agg #[.int .i64 b.base, .int .i64 b.pid, .int .i64 b.epoch, .int .i64 b.seq, .int .i64 b.kind, .int .i64 b.time, .slice A b.l.length c]) := hd 0 _ rfl (by kernel_rfl)
        refine want_free rfl ?_
        rw [Array.getD_eq_getD_getElem?] at d7
        go_simp
        refine (Hv.out W (Ext.trans _ _ _ hE2 hE)).mono ?_
        rintro e W' ⟨rfl, hb⟩
        exact hK _ _ hb (fun _ => rfl)
      · intro S W K hE hf hd hK
        have d8 : S.tmps.getD 8 undef = (.int .i64 v) := hd 1 _ rfl (by kernel_rfl)
        refine want_free rfl ?_
        rw [Array.getD_eq_getD_getElem?] at d8
        go_simp
        exact hK _ _ (Ext.refl _) (fun _ => rfl)
      · intro S W K hE hf hd hK
        have d9 : S.tmps.getD 9 undef = (.bool true) := hd 2 _ rfl (by kernel_rfl)
        refine want_free rfl ?_
        rw [Array.getD_eq_getD_getElem?] at d9
        go_simp
        exact hK _ _ (Ext.refl _) (fun _ => rfl)
      · intro S W K hE hf hd hK
        have f1 : S.tmps.getD 1 undef = .int .i64 at_ := hf 1 (by kernel_rfl)
        have d10 : S.tmps.getD 10 undef = (.bool true) := hd 3 _ rfl (by kernel_rfl)
        refine want_else (t := 10) d10 rfl rfl rfl rfl ?_
        exact fun _ => rfl
      · intro S W K hE hf hd hK
        have f2 : S.tmps.getD 2 undef = .pointer (some ⟨w.heap.size, 0, none⟩) := hf 2 (by kernel_rfl)
        have d10 : S.tmps.getD 10 undef = (.bool true) := hd 3 _ rfl (by kernel_rfl)
        refine want_else (t := 10) d10 rfl rfl rfl rfl ?_
        exact fun _ => rfl
      · intro S W K hE hf hd hK
        have d12 : S.tmps.getD 12 undef = undef := hd 5 _ rfl (by kernel_rfl)
        have d10 : S.tmps.getD 10 undef = (.bool true) := hd 3 _ rfl (by kernel_rfl)
        refine want_else (t := 10) d10 rfl rfl rfl rfl ?_
        exact fun _ => rfl
      · intro S W K hE hf hd hK
        have f2 : S.tmps.getD 2 undef = .pointer (some ⟨w.heap.size, 0, none⟩) := hf 2 (by kernel_rfl)
        have d10 : S.tmps.getD 10 undef = (.bool true) := hd 3 _ rfl (by kernel_rfl)
        refine want_else (t := 10) d10 rfl rfl rfl rfl ?_
        exact fun _ => rfl
      · intro S W K hE hf hd hK
        have d14 : S.tmps.getD 14 undef = undef := hd 7 _ rfl (by kernel_rfl)
        have d10 : S.tmps.getD 10 undef = (.bool true) := hd 3 _ rfl (by kernel_rfl)
        refine want_else (t := 10) d10 rfl rfl rfl rfl ?_
        exact fun _ => rfl
      · intro S W K hE hf hd hK
        have d13 : S.tmps.getD 13 undef = undef := hd 6 _ rfl (by kernel_rfl)
        have d15 : S.tmps.getD 15 undef = undef := hd 8 _ rfl (by kernel_rfl)
        have d10 : S.tmps.getD 10 undef = (.bool true) := hd 3 _ rfl (by kernel_rfl)
        refine want_else (t := 10) d10 rfl rfl rfl rfl ?_
        exact fun _ => rfl
      · intro S W K hE hf hd hK
        have d16 : S.tmps.getD 16 undef = undef := hd 9 _ rfl (by kernel_rfl)
        have d10 : S.tmps.getD 10 undef = (.bool true) := hd 3 _ rfl (by kernel_rfl)
        refine want_else (t := 10) d10 rfl rfl rfl rfl ?_
        exact fun _ => rfl
      · intro S W K hE hf hd hK
        have d11 : S.tmps.getD 11 undef = undef := hd 4 _ rfl (by kernel_rfl)
        have d17 : S.tmps.getD 17 undef = undef := hd 10 _ rfl (by kernel_rfl)
        have d10 : S.tmps.getD 10 undef = (.bool true) := hd 3 _ rfl (by kernel_rfl)
        refine want_else (t := 10) d10 rfl rfl rfl rfl ?_
        exact fun _ => rfl
      · intro S W K hE hf hd hK
        have d10 : S.tmps.getD 10 undef = (.bool true) := hd 3 _ rfl (by kernel_rfl)
        have d18 : S.tmps.getD 18 undef = undef := hd 11 _ rfl (by kernel_rfl)
        refine want_free rfl ?_
        rw [Array.getD_eq_getD_getElem?] at d10 d18
        go_simp
        exact hK _ _ (Ext.refl _) (fun _ => rfl)
    · intro vs W hE hV
      have v0 : vs 0 = (.agg #[.int .i64 b.base, .int .i64 b.pid, .int .i64 b.epoch, .int .i64 b.seq, .int .i64 b.kind, .int .i64 b.time, .slice A b.l.length c]) := hV 0 _ rfl (fun h => by cases h)
      have v1 : vs 1 = (.int .i64 v) := hV 1 _ rfl (fun h => by cases h)
      have v2 : vs 2 = (.bool true) := hV 2 _ rfl (fun h => by cases h)
      have v3 : vs 3 = (.bool true) := hV 3 _ rfl (fun h => by cases h)
      have v4 : vs 4 = undef := hV 4 _ rfl (fun h => by cases h)
      have v5 : vs 5 = undef := hV 5 _ rfl (fun h => by cases h)
      have v6 : vs 6 = undef := hV 6 _ rfl (fun h => by cases h)
      have v7 : vs 7 = undef := hV 7 _ rfl (fun h => by cases h)
      have v8 : vs 8 = undef := hV 8 _ rfl (fun h => by cases h)
      have v9 : vs 9 = undef := hV 9 _ rfl (fun h => by cases h)
      have v10 : vs 10 = undef := hV 10 _ rfl (fun h => by cases h)
      have v11 : vs 11 = undef := hV 11 _ rfl (fun h => by cases h)
      have v12 : vs 12 = (.bool true) := hV 12 _ rfl (fun h => by cases h)
      clear hV
      set_option maxRecDepth 100000 in simp only [putAll, List.map_cons, List.map_nil, List.length_cons, List.length_nil, Nat.reduceAdd, List.range_succ, List.range_zero, List.nil_append, List.cons_append]
      set_option maxRecDepth 100000 in go_simp
      have p2W := (hE.block (w.heap.size + 1) (by omega)).trans p2
      have hEW := Ext.trans _ _ _ hE2 hE
      go_wp2_with (refine gate_op (p := .store 24 (.tmp 4) (.tmp 20)) rfl ?_; go_must (refine put_row rfl 24 (.tmp 4) (.tmp 20) rfl (w.heap.size + 1) #[.int .i64 0, .int .i64 0, .int .i64 0, .int .i64 0, .int .i64 0, .int .i64 0, .slice none 0 0] rfl rfl _ _ p2W size_bt rfl (btC_one btNone none 0) ?_; intro wf hpf))
      refine bodyPost_ret (results_row2 rfl _ _ (w.heap.size + 1) _ _ _ _ rfl hpf.obj Try.underlying24 rfl size_bt) rfl ?_
      exact rfrom_none (hpf.below hEW (by omega)) Hqn.out
end Go.Proofs.Ytaomhedjamnloaa
