/- Contract of the document's Valid. -/
import Derived.Test.YtaomhedjamnloaaRecI
set_option linter.unusedVariables false
set_option linter.unusedSimpArgs false
namespace Go.Proofs.Ytaomhedjamnloaa
open Go Go.RowKit

/-- Do kind and records not go together? -/
def badB (b : BtM) : Bool := (markB b != decide (b.l.length = 0)) || (markB b && decide (b.seq ≠ 0))
theorem fits_bad (b : BtM) : fitsB b = false ↔ (b.pid = 0 ∧ (b.kind ≠ 0 ∨ b.epoch ≠ 0 ∨ b.seq ≠ 0)) ∨ badB b = true := by
  unfold fitsB badB
  by_cases h : b.pid = 0 ∧ (b.kind ≠ 0 ∨ b.epoch ≠ 0 ∨ b.seq ≠ 0)
  · rw [if_pos h]
    simp [h]
  · rw [if_neg h]
    cases markB b
    · by_cases h2 : b.l.length = 0
      · simp [h, h2]
      · simp only [h, false_or, bne_iff_ne]
        simp [h2]
    · simp only [h, false_or]
      by_cases h2 : b.l.length = 0 <;> by_cases h3 : b.seq = 0 <;> simp [h2, h3]
set_option maxRecDepth 8000 in
set_option maxHeartbeats 1000000 in
theorem Rvalid_calls (w : World) (B : Nat) (hB : B ≤ w.heap.size) (b : BtM) (A : Option Addr) (c : Nat) (h : BtAt w B b A c) :
    Calls Try.prog 23 #[.agg (btC b A c)] w fun e w' => e = .returned (.int .i64 (validE b)) ∧ Ext w w' := by
  have hlc := h.lc
  have hl63 : b.l.length ≤ 9223372036854775807 := by unfold maxLen at hlc; omega
  have Hs := Lib.hid (fun W => RSpan_calls W b A c)
  have Hm := Lib.hid (fun W => Rmark_calls W b A c)
  have HE := Lib.hid (Ext.alloc w (.cells #[.int .i64 b.base, .int .i64 b.pid, .int .i64 b.epoch, .int .i64 b.seq, .int .i64 b.kind, .int .i64 b.time, .slice A b.l.length c] 24))
  have Hp := Lib.hid (BtObj.new w b A b.l.length c)
  generalize hv : validE b = v
  have hov : overB b = decide (1099511627776 - ((spanN b : Nat) - 1 : Int) < b.base ∨ (0 < b.pid ∧ markB b = false ∧ 2147483647 - ((spanN b : Nat) - 1 : Int) < b.seq)) := rfl
  have hsp : spanN b = if markB b = true then 1 else b.l.length := rfl
  have hbad : badB b = ((markB b != decide (b.l.length = 0)) || (markB b && decide (b.seq ≠ 0))) := rfl
  have hnb := numB_iff b
  have hfb := fits_bad b
  unfold validE at hv
  generalize numB b = nb at *
  generalize fitsB b = fb at *
  generalize badB b = f2 at *
  generalize overB b = ob at *
  generalize spanN b = sp at *
  generalize markB b = mk at *
  have Hov := Lib.hid hov
  have Hv := Lib.hid hv
  have Hsp := Lib.hid hsp
  have Hbad := Lib.hid hbad
  have Hnb := Lib.hid hnb
  have Hfb := Lib.hid hfb
  have Hrow := Lib.hid (fun W (hE : Ext w W) => h.row.belowF (fun _ hk => Nat.lt_of_lt_of_le hk hB) hE)
  have Hok := Lib.hid h.ok
  clear hv h hov hsp hbad hnb hfb
  unfold btC at *
  generalize hnl : b.l.length = n at *
  have Hnl := Lib.hid hnl
  clear hnl
  go_enter Try.func23, Try.ntmps23
  go_upto_region 1 with fail
  generalize Value.agg #[.int .i64 b.base, .int .i64 b.pid, .int .i64 b.epoch, .int .i64 b.seq, .int .i64 b.kind, .int .i64 b.time, .slice A n c] = av
  generalize w.alloc (.cells #[.int .i64 b.base, .int .i64 b.pid, .int .i64 b.epoch, .int .i64 b.seq, .int .i64 b.kind, .int .i64 b.time, .slice A n c] 24) = w1 at *
  obtain ⟨k0, k1, k2, k3, k4, k5, k6⟩ := Hp.out.cells
  have Hp1 := Lib.hid (fun W (hE : Ext w1 W) => Hp.out.ext hE)
  go_cut [32] (fun v wx => v = .bool (!nb) ∧ w1 = wx)
  case first =>
    go_wp2_with (go_at_call 72; refine (Rout_calls _ _ _ _).mono ?_; rintro e w' ⟨rfl, rfl⟩)
    all_goals go_meet
    all_goals refine ⟨congrArg Value.bool ?_, rfl⟩
    all_goals
      cases hb : nb with
      | true =>
        have hN := Hnb.out.1 hb
        obtain ⟨n1, n2, n3, n4, n5, n6⟩ := hN
        first
        | (simp; done)
        | (simp; omega)
        | (exfalso; omega)
        | (simp_all; omega)
      | false =>
        have hN : ¬ BtNums b := fun h => by have := Hnb.out.2 h; rw [hb] at this; cases this
        first
        | (simp; done)
        | (simp; omega)
        | (exfalso; exact hN ⟨by omega, by omega, by omega, by omega, by omega, by omega⟩)
        | (rw [Bool.not_false]; simp; refine Decidable.byContradiction fun h => hN ⟨by omega, by omega, by omega, by omega, by omega, by omega⟩)
  case rest =>
    obtain ⟨rfl, rfl⟩ := hcut
    cases hnbv : nb with
    | false =>
      have Hn2 := Lib.hid hnbv
      clear hnbv
      go_wp2
      go_ret
      exact ⟨ret_i64 (by rw [← Hv.out, if_pos (.inl Hn2.out)]), HE.out⟩
    | true =>
      have Hn2 := Lib.hid hnbv
      clear hnbv
      obtain ⟨q, hq⟩ : ∃ q, q = decide (b.pid = 0 ∧ (b.kind ≠ 0 ∨ b.epoch ≠ 0 ∨ b.seq ≠ 0)) := ⟨_, rfl⟩
      have Hq := Lib.hid hq
      clear hq
      go_upto_region 3 with fail
      go_cut [50] (fun v wx => v = .bool q ∧ w1 = wx)
      case first =>
        go_wp2
        all_goals go_meet
        all_goals refine ⟨congrArg Value.bool ?_, rfl⟩
        all_goals
          rw [Hq.out, Bool.eq_iff_iff, decide_eq_true_iff]
          first
          | (simp; done)
          | (simp_all; done)
          | (simp; omega)
          | (simp_all; omega)
      case rest =>
        obtain ⟨rfl, rfl⟩ := hcut
        cases hqv : q with
        | true =>
          have Hq2 := Lib.hid (show b.pid = 0 ∧ (b.kind ≠ 0 ∨ b.epoch ≠ 0 ∨ b.seq ≠ 0) from of_decide_eq_true (Hq.out.symm.trans hqv))
          clear hqv
          go_wp2
          go_ret
          exact ⟨ret_i64 (by rw [← Hv.out, if_pos (.inr (Hfb.out.2 (.inl Hq2.out)))]), HE.out⟩
        | false =>
          have Hq2 := Lib.hid (show ¬ (b.pid = 0 ∧ (b.kind ≠ 0 ∨ b.epoch ≠ 0 ∨ b.seq ≠ 0)) from of_decide_eq_false (Hq.out.symm.trans hqv))
          clear hqv
          go_upto_region 5 with fail
          clear k0 k1 k2 k3 k4 k5 k6
          go_cut [66] (fun v wx => v = .bool f2 ∧ Ext w1 wx)
          case first =>
            by_cases hmk : mk = true
            · have Hm2 := Hm
              rw [hmk] at Hm2
              rw [hmk] at Hbad
              have Hmk := Lib.hid hmk
              clear hmk
              by_cases hn0 : n = 0
              · have hnd : ((n : Int) == 0) = true := by rw [hn0]; rfl
                have hnd2 : decide (n = 0) = true := decide_eq_true hn0
                by_cases hs0 : b.seq = 0
                · have Hc := Lib.hid (show f2 = false from by rw [Hbad.out]; simp [hs0, hn0])
                  have hsd : (b.seq != 0) = false := by rw [hs0]; rfl
                  clear hn0 hs0
                  refine wp_region_steps [.eq (.agg #[.int .i64 b.base, .int .i64 b.pid, .int .i64 b.epoch, .int .i64 b.seq, .int .i64 b.kind, .int .i64 b.time, .slice A n c]), .eq (.bool true), .eq (.pointer (some ⟨w.heap.size, 6, none⟩)), .eq (.slice A n c), .eq (.int .i64 n), .eq (.bool true), .eq (.bool false), .eq (.bool false), .eq (.agg #[.int .i64 b.base, .int .i64 b.pid, .int .i64 b.epoch, .int .i64 b.seq, .int .i64 b.kind, .int .i64 b.time, .slice A n c]), .eq (.bool true), .eq (.bool true), .eq (.pointer (some ⟨w.heap.size, 3, none⟩)), .eq (.int .i64 b.seq), .eq (.bool false), .eq (.bool false), .eq (.bool false)] (by kernel_rfl) (by kernel_rfl) (all_dst (by kernel_rfl)) ?_ ?_
                  · refine ⟨?_, ?_, ?_, ?_, ?_, ?_, ?_, ?_, ?_, ?_, ?_, ?_, ?_, ?_, ?_, ?_, trivial⟩
                    · intro S W K hE hf hd hK
                      have f1 : S.tmps.getD 1 undef = .pointer (some ⟨w.heap.size, 0, none⟩) := hf 1 (by kernel_rfl)
                      refine want_free rfl ?_
                      rw [Array.getD_eq_getD_getElem?] at f1
                      obtain ⟨k0, k1, k2, k3, k4, k5, k6⟩ := (Hp1.out W hE).cells
                      go_simp
                      exact hK _ _ (Ext.refl _) (fun _ => rfl)
                    · intro S W K hE hf hd hK
                      have d51 : S.tmps.getD 51 undef = (.agg #[.int .i64 b.base, .int .i64 b.pid, .int .i64 b.epoch, .int .i64 b.seq, .int .i64 b.kind, .int .i64 b.time, .slice A n c]) := hd 0 _ rfl (by kernel_rfl)
                      refine want_free rfl ?_
                      rw [Array.getD_eq_getD_getElem?] at d51
                      go_simp
                      refine (Hm2.out W).mono ?_
                      rintro e W' ⟨rfl, hb⟩
                      exact hK _ _ hb (fun _ => rfl)
                    · intro S W K hE hf hd hK
                      have f1 : S.tmps.getD 1 undef = .pointer (some ⟨w.heap.size, 0, none⟩) := hf 1 (by kernel_rfl)
                      refine want_free rfl ?_
                      rw [Array.getD_eq_getD_getElem?] at f1
                      go_simp
                      exact hK _ _ (Ext.refl _) (fun _ => rfl)
                    · intro S W K hE hf hd hK
                      have d53 : S.tmps.getD 53 undef = (.pointer (some ⟨w.heap.size, 6, none⟩)) := hd 2 _ rfl (by kernel_rfl)
                      refine want_free rfl ?_
                      rw [Array.getD_eq_getD_getElem?] at d53
                      obtain ⟨k0, k1, k2, k3, k4, k5, k6⟩ := (Hp1.out W hE).cells
                      go_simp
                      exact hK _ _ (Ext.refl _) (fun _ => rfl)
                    · intro S W K hE hf hd hK
                      have d54 : S.tmps.getD 54 undef = (.slice A n c) := hd 3 _ rfl (by kernel_rfl)
                      refine want_free rfl ?_
                      rw [Array.getD_eq_getD_getElem?] at d54
                      go_simp
                      exact hK _ _ (Ext.refl _) (fun _ => rfl)
                    · intro S W K hE hf hd hK
                      have d55 : S.tmps.getD 55 undef = (.int .i64 n) := hd 4 _ rfl (by kernel_rfl)
                      refine want_free rfl ?_
                      rw [Array.getD_eq_getD_getElem?] at d55
                      go_simp
                      exact hK _ _ (Ext.refl _) (fun _ => rfl)
                    · intro S W K hE hf hd hK
                      have d52 : S.tmps.getD 52 undef = (.bool true) := hd 1 _ rfl (by kernel_rfl)
                      have d56 : S.tmps.getD 56 undef = (.bool true) := hd 5 _ rfl (by kernel_rfl)
                      refine want_free rfl ?_
                      rw [Array.getD_eq_getD_getElem?] at d52 d56
                      go_simp
                      exact hK _ _ (Ext.refl _) (fun _ => rfl)
                    · intro S W K hE hf hd hK
                      have d57 : S.tmps.getD 57 undef = (.bool false) := hd 6 _ rfl (by kernel_rfl)
                      refine want_free rfl ?_
                      rw [Array.getD_eq_getD_getElem?] at d57
                      go_simp
                      exact hK _ _ (Ext.refl _) (fun _ => rfl)
                    · intro S W K hE hf hd hK
                      have f1 : S.tmps.getD 1 undef = .pointer (some ⟨w.heap.size, 0, none⟩) := hf 1 (by kernel_rfl)
                      have d58 : S.tmps.getD 58 undef = (.bool false) := hd 7 _ rfl (by kernel_rfl)
                      refine want_then (t := 58) d58 rfl rfl rfl ?_
                      rw [Array.getD_eq_getD_getElem?] at f1 d58
                      obtain ⟨k0, k1, k2, k3, k4, k5, k6⟩ := (Hp1.out W hE).cells
                      go_simp
                      exact hK _ _ (Ext.refl _) (fun _ => rfl)
                    · intro S W K hE hf hd hK
                      have d59 : S.tmps.getD 59 undef = (.agg #[.int .i64 b.base, .int .i64 b.pid, .int .i64 b.epoch, .int .i64 b.seq, .int .i64 b.kind, .int .i64 b.time, .slice A n c]) := hd 8 _ rfl (by kernel_rfl)
                      have d58 : S.tmps.getD 58 undef = (.bool false) := hd 7 _ rfl (by kernel_rfl)
                      refine want_then (t := 58) d58 rfl rfl rfl ?_
                      rw [Array.getD_eq_getD_getElem?] at d59 d58
                      go_simp
                      refine (Hm2.out W).mono ?_
                      rintro e W' ⟨rfl, hb⟩
                      exact hK _ _ hb (fun _ => rfl)
                    · intro S W K hE hf hd hK
                      have d60 : S.tmps.getD 60 undef = (.bool true) := hd 9 _ rfl (by kernel_rfl)
                      have d58 : S.tmps.getD 58 undef = (.bool false) := hd 7 _ rfl (by kernel_rfl)
                      refine want_then (t := 58) d58 rfl rfl rfl ?_
                      rw [Array.getD_eq_getD_getElem?] at d60 d58
                      go_simp
                      exact hK _ _ (Ext.refl _) (fun _ => rfl)
                    · intro S W K hE hf hd hK
                      have f1 : S.tmps.getD 1 undef = .pointer (some ⟨w.heap.size, 0, none⟩) := hf 1 (by kernel_rfl)
                      have d61 : S.tmps.getD 61 undef = (.bool true) := hd 10 _ rfl (by kernel_rfl)
                      refine want_then (t := 61) d61 rfl rfl rfl ?_
                      rw [Array.getD_eq_getD_getElem?] at f1 d61
                      go_simp
                      exact hK _ _ (Ext.refl _) (fun _ => rfl)
                    · intro S W K hE hf hd hK
                      have d62 : S.tmps.getD 62 undef = (.pointer (some ⟨w.heap.size, 3, none⟩)) := hd 11 _ rfl (by kernel_rfl)
                      have d61 : S.tmps.getD 61 undef = (.bool true) := hd 10 _ rfl (by kernel_rfl)
                      refine want_then (t := 61) d61 rfl rfl rfl ?_
                      rw [Array.getD_eq_getD_getElem?] at d62 d61
                      obtain ⟨k0, k1, k2, k3, k4, k5, k6⟩ := (Hp1.out W hE).cells
                      go_simp
                      exact hK _ _ (Ext.refl _) (fun _ => rfl)
                    · intro S W K hE hf hd hK
                      have d63 : S.tmps.getD 63 undef = (.int .i64 b.seq) := hd 12 _ rfl (by kernel_rfl)
                      have d61 : S.tmps.getD 61 undef = (.bool true) := hd 10 _ rfl (by kernel_rfl)
                      refine want_then (t := 61) d61 rfl rfl rfl ?_
                      rw [Array.getD_eq_getD_getElem?] at d63 d61
                      go_simp
                      exact hK _ _ (Ext.refl _) (fun _ => rfl)
                    · intro S W K hE hf hd hK
                      have d61 : S.tmps.getD 61 undef = (.bool true) := hd 10 _ rfl (by kernel_rfl)
                      have d64 : S.tmps.getD 64 undef = (.bool false) := hd 13 _ rfl (by kernel_rfl)
                      have d58 : S.tmps.getD 58 undef = (.bool false) := hd 7 _ rfl (by kernel_rfl)
                      refine want_then (t := 58) d58 rfl rfl rfl ?_
                      rw [Array.getD_eq_getD_getElem?] at d61 d64 d58
                      go_simp
                      exact hK _ _ (Ext.refl _) (fun _ => rfl)
                    · intro S W K hE hf hd hK
                      have d58 : S.tmps.getD 58 undef = (.bool false) := hd 7 _ rfl (by kernel_rfl)
                      have d65 : S.tmps.getD 65 undef = (.bool false) := hd 14 _ rfl (by kernel_rfl)
                      refine want_free rfl ?_
                      rw [Array.getD_eq_getD_getElem?] at d58 d65
                      go_simp
                      exact hK _ _ (Ext.refl _) (fun _ => rfl)
                  · intro vs W hE hV
                    have v0 : vs 0 = (.agg #[.int .i64 b.base, .int .i64 b.pid, .int .i64 b.epoch, .int .i64 b.seq, .int .i64 b.kind, .int .i64 b.time, .slice A n c]) := hV 0 _ rfl (fun h => by cases h)
                    have v1 : vs 1 = (.bool true) := hV 1 _ rfl (fun h => by cases h)
                    have v2 : vs 2 = (.pointer (some ⟨w.heap.size, 6, none⟩)) := hV 2 _ rfl (fun h => by cases h)
                    have v3 : vs 3 = (.slice A n c) := hV 3 _ rfl (fun h => by cases h)
                    have v4 : vs 4 = (.int .i64 n) := hV 4 _ rfl (fun h => by cases h)
                    have v5 : vs 5 = (.bool true) := hV 5 _ rfl (fun h => by cases h)
                    have v6 : vs 6 = (.bool false) := hV 6 _ rfl (fun h => by cases h)
                    have v7 : vs 7 = (.bool false) := hV 7 _ rfl (fun h => by cases h)
                    have v8 : vs 8 = (.agg #[.int .i64 b.base, .int .i64 b.pid, .int .i64 b.epoch, .int .i64 b.seq, .int .i64 b.kind, .int .i64 b.time, .slice A n c]) := hV 8 _ rfl (fun h => by cases h)
                    have v9 : vs 9 = (.bool true) := hV 9 _ rfl (fun h => by cases h)
                    have v10 : vs 10 = (.bool true) := hV 10 _ rfl (fun h => by cases h)
                    have v11 : vs 11 = (.pointer (some ⟨w.heap.size, 3, none⟩)) := hV 11 _ rfl (fun h => by cases h)
                    have v12 : vs 12 = (.int .i64 b.seq) := hV 12 _ rfl (fun h => by cases h)
                    have v13 : vs 13 = (.bool false) := hV 13 _ rfl (fun h => by cases h)
                    have v14 : vs 14 = (.bool false) := hV 14 _ rfl (fun h => by cases h)
                    have v15 : vs 15 = (.bool false) := hV 15 _ rfl (fun h => by cases h)
                    clear hV
                    set_option maxRecDepth 100000 in simp only [putAll, List.map_cons, List.map_nil, List.length_cons, List.length_nil, Nat.reduceAdd, List.range_succ, List.range_zero, List.nil_append, List.cons_append]
                    set_option maxRecDepth 100000 in go_simp
                    rename_i J K' hJ hK'
                    refine hK' _ _ (Met.intro (hJ _ _ ?_))
                    repeat apply Exists.intro
                    refine ⟨?_, rfl⟩
                    exact ⟨congrArg Value.bool (Hc.out.symm), hE⟩
                · have Hc := Lib.hid (show f2 = true from by rw [Hbad.out]; simp [hs0, hn0])
                  have hsd : (b.seq != 0) = true := by simpa using hs0
                  clear hn0 hs0
                  refine wp_region_steps [.eq (.agg #[.int .i64 b.base, .int .i64 b.pid, .int .i64 b.epoch, .int .i64 b.seq, .int .i64 b.kind, .int .i64 b.time, .slice A n c]), .eq (.bool true), .eq (.pointer (some ⟨w.heap.size, 6, none⟩)), .eq (.slice A n c), .eq (.int .i64 n), .eq (.bool true), .eq (.bool false), .eq (.bool false), .eq (.agg #[.int .i64 b.base, .int .i64 b.pid, .int .i64 b.epoch, .int .i64 b.seq, .int .i64 b.kind, .int .i64 b.time, .slice A n c]), .eq (.bool true), .eq (.bool true), .eq (.pointer (some ⟨w.heap.size, 3, none⟩)), .eq (.int .i64 b.seq), .eq (.bool true), .eq (.bool true), .eq (.bool true)] (by kernel_rfl) (by kernel_rfl) (all_dst (by kernel_rfl)) ?_ ?_
                  · refine ⟨?_, ?_, ?_, ?_, ?_, ?_, ?_, ?_, ?_, ?_, ?_, ?_, ?_, ?_, ?_, ?_, trivial⟩
                    · intro S W K hE hf hd hK
                      have f1 : S.tmps.getD 1 undef = .pointer (some ⟨w.heap.size, 0, none⟩) := hf 1 (by kernel_rfl)
                      refine want_free rfl ?_
                      rw [Array.getD_eq_getD_getElem?] at f1
                      obtain ⟨k0, k1, k2, k3, k4, k5, k6⟩ := (Hp1.out W hE).cells
                      go_simp
                      exact hK _ _ (Ext.refl _) (fun _ => rfl)
                    · intro S W K hE hf hd hK
                      have d51 : S.tmps.getD 51 undef = (.agg #[.int .i64 b.base, .int .i64 b.pid, .int .i64 b.epoch, .int .i64 b.seq, .int .i64 b.kind, .int .i64 b.time, .slice A n c]) := hd 0 _ rfl (by kernel_rfl)
                      refine want_free rfl ?_
                      rw [Array.getD_eq_getD_getElem?] at d51
                      go_simp
                      refine (Hm2.out W).mono ?_
                      rintro e W' ⟨rfl, hb⟩
                      exact hK _ _ hb (fun _ => rfl)
                    · intro S W K hE hf hd hK
                      have f1 : S.tmps.getD 1 undef = .pointer (some ⟨w.heap.size, 0, none⟩) := hf 1 (by kernel_rfl)
                      refine want_free rfl ?_
                      rw [Array.getD_eq_getD_getElem?] at f1
                      go_simp
                      exact hK _ _ (Ext.refl _) (fun _ => rfl)
                    · intro S W K hE hf hd hK
                      have d53 : S.tmps.getD 53 undef = (.pointer (some ⟨w.heap.size, 6, none⟩)) := hd 2 _ rfl (by kernel_rfl)
                      refine want_free rfl ?_
                      rw [Array.getD_eq_getD_getElem?] at d53
                      obtain ⟨k0, k1, k2, k3, k4, k5, k6⟩ := (Hp1.out W hE).cells
                      go_simp
                      exact hK _ _ (Ext.refl _) (fun _ => rfl)
                    · intro S W K hE hf hd hK
                      have d54 : S.tmps.getD 54 undef = (.slice A n c) := hd 3 _ rfl (by kernel_rfl)
                      refine want_free rfl ?_
                      rw [Array.getD_eq_getD_getElem?] at d54
                      go_simp
                      exact hK _ _ (Ext.refl _) (fun _ => rfl)
                    · intro S W K hE hf hd hK
                      have d55 : S.tmps.getD 55 undef = (.int .i64 n) := hd 4 _ rfl (by kernel_rfl)
                      refine want_free rfl ?_
                      rw [Array.getD_eq_getD_getElem?] at d55
                      go_simp
                      exact hK _ _ (Ext.refl _) (fun _ => rfl)
                    · intro S W K hE hf hd hK
                      have d52 : S.tmps.getD 52 undef = (.bool true) := hd 1 _ rfl (by kernel_rfl)
                      have d56 : S.tmps.getD 56 undef = (.bool true) := hd 5 _ rfl (by kernel_rfl)
                      refine want_free rfl ?_
                      rw [Array.getD_eq_getD_getElem?] at d52 d56
                      go_simp
                      exact hK _ _ (Ext.refl _) (fun _ => rfl)
                    · intro S W K hE hf hd hK
                      have d57 : S.tmps.getD 57 undef = (.bool false) := hd 6 _ rfl (by kernel_rfl)
                      refine want_free rfl ?_
                      rw [Array.getD_eq_getD_getElem?] at d57
                      go_simp
                      exact hK _ _ (Ext.refl _) (fun _ => rfl)
                    · intro S W K hE hf hd hK
                      have f1 : S.tmps.getD 1 undef = .pointer (some ⟨w.heap.size, 0, none⟩) := hf 1 (by kernel_rfl)
                      have d58 : S.tmps.getD 58 undef = (.bool false) := hd 7 _ rfl (by kernel_rfl)
                      refine want_then (t := 58) d58 rfl rfl rfl ?_
                      rw [Array.getD_eq_getD_getElem?] at f1 d58
                      obtain ⟨k0, k1, k2, k3, k4, k5, k6⟩ := (Hp1.out W hE).cells
                      go_simp
                      exact hK _ _ (Ext.refl _) (fun _ => rfl)
                    · intro S W K hE hf hd hK
                      have d59 : S.tmps.getD 59 undef = (.agg #[.int .i64 b.base, .int .i64 b.pid, .int .i64 b.epoch, .int .i64 b.seq, .int .i64 b.kind, .int .i64 b.time, .slice A n c]) := hd 8 _ rfl (by kernel_rfl)
                      have d58 : S.tmps.getD 58 undef = (.bool false) := hd 7 _ rfl (by kernel_rfl)
                      refine want_then (t := 58) d58 rfl rfl rfl ?_
                      rw [Array.getD_eq_getD_getElem?] at d59 d58
                      go_simp
                      refine (Hm2.out W).mono ?_
                      rintro e W' ⟨rfl, hb⟩
                      exact hK _ _ hb (fun _ => rfl)
                    · intro S W K hE hf hd hK
                      have d60 : S.tmps.getD 60 undef = (.bool true) := hd 9 _ rfl (by kernel_rfl)
                      have d58 : S.tmps.getD 58 undef = (.bool false) := hd 7 _ rfl (by kernel_rfl)
                      refine want_then (t := 58) d58 rfl rfl rfl ?_
                      rw [Array.getD_eq_getD_getElem?] at d60 d58
                      go_simp
                      exact hK _ _ (Ext.refl _) (fun _ => rfl)
                    · intro S W K hE hf hd hK
                      have f1 : S.tmps.getD 1 undef = .pointer (some ⟨w.heap.size, 0, none⟩) := hf 1 (by kernel_rfl)
                      have d61 : S.tmps.getD 61 undef = (.bool true) := hd 10 _ rfl (by kernel_rfl)
                      refine want_then (t := 61) d61 rfl rfl rfl ?_
                      rw [Array.getD_eq_getD_getElem?] at f1 d61
                      go_simp
                      exact hK _ _ (Ext.refl _) (fun _ => rfl)
                    · intro S W K hE hf hd hK
                      have d62 : S.tmps.getD 62 undef = (.pointer (some ⟨w.heap.size, 3, none⟩)) := hd 11 _ rfl (by kernel_rfl)
                      have d61 : S.tmps.getD 61 undef = (.bool true) := hd 10 _ rfl (by kernel_rfl)
                      refine want_then (t := 61) d61 rfl rfl rfl ?_
                      rw [Array.getD_eq_getD_getElem?] at d62 d61
                      obtain ⟨k0, k1, k2, k3, k4, k5, k6⟩ := (Hp1.out W hE).cells
                      go_simp
                      exact hK _ _ (Ext.refl _) (fun _ => rfl)
                    · intro S W K hE hf hd hK
                      have d63 : S.tmps.getD 63 undef = (.int .i64 b.seq) := hd 12 _ rfl (by kernel_rfl)
                      have d61 : S.tmps.getD 61 undef = (.bool true) := hd 10 _ rfl (by kernel_rfl)
                      refine want_then (t := 61) d61 rfl rfl rfl ?_
                      rw [Array.getD_eq_getD_getElem?] at d63 d61
                      go_simp
                      exact hK _ _ (Ext.refl _) (fun _ => rfl)
                    · intro S W K hE hf hd hK
                      have d61 : S.tmps.getD 61 undef = (.bool true) := hd 10 _ rfl (by kernel_rfl)
                      have d64 : S.tmps.getD 64 undef = (.bool true) := hd 13 _ rfl (by kernel_rfl)
                      have d58 : S.tmps.getD 58 undef = (.bool false) := hd 7 _ rfl (by kernel_rfl)
                      refine want_then (t := 58) d58 rfl rfl rfl ?_
                      rw [Array.getD_eq_getD_getElem?] at d61 d64 d58
                      go_simp
                      exact hK _ _ (Ext.refl _) (fun _ => rfl)
                    · intro S W K hE hf hd hK
                      have d58 : S.tmps.getD 58 undef = (.bool false) := hd 7 _ rfl (by kernel_rfl)
                      have d65 : S.tmps.getD 65 undef = (.bool true) := hd 14 _ rfl (by kernel_rfl)
                      refine want_free rfl ?_
                      rw [Array.getD_eq_getD_getElem?] at d58 d65
                      go_simp
                      exact hK _ _ (Ext.refl _) (fun _ => rfl)
                  · intro vs W hE hV
                    have v0 : vs 0 = (.agg #[.int .i64 b.base, .int .i64 b.pid, .int .i64 b.epoch, .int .i64 b.seq, .int .i64 b.kind, .int .i64 b.time, .slice A n c]) := hV 0 _ rfl (fun h => by cases h)
                    have v1 : vs 1 = (.bool true) := hV 1 _ rfl (fun h => by cases h)
                    have v2 : vs 2 = (.pointer (some ⟨w.heap.size, 6, none⟩)) := hV 2 _ rfl (fun h => by cases h)
                    have v3 : vs 3 = (.slice A n c) := hV 3 _ rfl (fun h => by cases h)
                    have v4 : vs 4 = (.int .i64 n) := hV 4 _ rfl (fun h => by cases h)
                    have v5 : vs 5 = (.bool true) := hV 5 _ rfl (fun h => by cases h)
                    have v6 : vs 6 = (.bool false) := hV 6 _ rfl (fun h => by cases h)
                    have v7 : vs 7 = (.bool false) := hV 7 _ rfl (fun h => by cases h)
                    have v8 : vs 8 = (.agg #[.int .i64 b.base, .int .i64 b.pid, .int .i64 b.epoch, .int .i64 b.seq, .int .i64 b.kind, .int .i64 b.time, .slice A n c]) := hV 8 _ rfl (fun h => by cases h)
                    have v9 : vs 9 = (.bool true) := hV 9 _ rfl (fun h => by cases h)
                    have v10 : vs 10 = (.bool true) := hV 10 _ rfl (fun h => by cases h)
                    have v11 : vs 11 = (.pointer (some ⟨w.heap.size, 3, none⟩)) := hV 11 _ rfl (fun h => by cases h)
                    have v12 : vs 12 = (.int .i64 b.seq) := hV 12 _ rfl (fun h => by cases h)
                    have v13 : vs 13 = (.bool true) := hV 13 _ rfl (fun h => by cases h)
                    have v14 : vs 14 = (.bool true) := hV 14 _ rfl (fun h => by cases h)
                    have v15 : vs 15 = (.bool true) := hV 15 _ rfl (fun h => by cases h)
                    clear hV
                    set_option maxRecDepth 100000 in simp only [putAll, List.map_cons, List.map_nil, List.length_cons, List.length_nil, Nat.reduceAdd, List.range_succ, List.range_zero, List.nil_append, List.cons_append]
                    set_option maxRecDepth 100000 in go_simp
                    rename_i J K' hJ hK'
                    refine hK' _ _ (Met.intro (hJ _ _ ?_))
                    repeat apply Exists.intro
                    refine ⟨?_, rfl⟩
                    exact ⟨congrArg Value.bool (Hc.out.symm), hE⟩
              · have Hc := Lib.hid (show f2 = true from by rw [Hbad.out]; simp [hn0])
                have hnd : ((n : Int) == 0) = false := by rw [beq_eq_false_iff_ne]; omega
                have hnd2 : decide (n = 0) = false := decide_eq_false hn0
                clear hn0
                refine wp_region_steps [.eq (.agg #[.int .i64 b.base, .int .i64 b.pid, .int .i64 b.epoch, .int .i64 b.seq, .int .i64 b.kind, .int .i64 b.time, .slice A n c]), .eq (.bool true), .eq (.pointer (some ⟨w.heap.size, 6, none⟩)), .eq (.slice A n c), .eq (.int .i64 n), .eq (.bool false), .eq (.bool true), .eq (.bool true), .eq undef, .eq undef, .eq undef, .eq undef, .eq undef, .eq undef, .eq undef, .eq (.bool true)] (by kernel_rfl) (by kernel_rfl) (all_dst (by kernel_rfl)) ?_ ?_
                · refine ⟨?_, ?_, ?_, ?_, ?_, ?_, ?_, ?_, ?_, ?_, ?_, ?_, ?_, ?_, ?_, ?_, trivial⟩
                  · intro S W K hE hf hd hK
                    have f1 : S.tmps.getD 1 undef = .pointer (some ⟨w.heap.size, 0, none⟩) := hf 1 (by kernel_rfl)
                    refine want_free rfl ?_
                    rw [Array.getD_eq_getD_getElem?] at f1
                    obtain ⟨k0, k1, k2, k3, k4, k5, k6⟩ := (Hp1.out W hE).cells
                    go_simp
                    exact hK _ _ (Ext.refl _) (fun _ => rfl)
                  · intro S W K hE hf hd hK
                    have d51 : S.tmps.getD 51 undef = (.agg #[.int .i64 b.base, .int .i64 b.pid, .int .i64 b.epoch, .int .i64 b.seq, .int .i64 b.kind, .int .i64 b.time, .slice A n c]) := hd 0 _ rfl (by kernel_rfl)
                    refine want_free rfl ?_
                    rw [Array.getD_eq_getD_getElem?] at d51
                    go_simp
                    refine (Hm2.out W).mono ?_
                    rintro e W' ⟨rfl, hb⟩
                    exact hK _ _ hb (fun _ => rfl)
                  · intro S W K hE hf hd hK
                    have f1 : S.tmps.getD 1 undef = .pointer (some ⟨w.heap.size, 0, none⟩) := hf 1 (by kernel_rfl)
                    refine want_free rfl ?_
                    rw [Array.getD_eq_getD_getElem?] at f1
                    go_simp
                    exact hK _ _ (Ext.refl _) (fun _ => rfl)
                  · intro S W K hE hf hd hK
                    have d53 : S.tmps.getD 53 undef = (.pointer (some ⟨w.heap.size, 6, none⟩)) := hd 2 _ rfl (by kernel_rfl)
                    refine want_free rfl ?_
                    rw [Array.getD_eq_getD_getElem?] at d53
                    obtain ⟨k0, k1, k2, k3, k4, k5, k6⟩ := (Hp1.out W hE).cells
                    go_simp
                    exact hK _ _ (Ext.refl _) (fun _ => rfl)
                  · intro S W K hE hf hd hK
                    have d54 : S.tmps.getD 54 undef = (.slice A n c) := hd 3 _ rfl (by kernel_rfl)
                    refine want_free rfl ?_
                    rw [Array.getD_eq_getD_getElem?] at d54
                    go_simp
                    exact hK _ _ (Ext.refl _) (fun _ => rfl)
                  · intro S W K hE hf hd hK
                    have d55 : S.tmps.getD 55 undef = (.int .i64 n) := hd 4 _ rfl (by kernel_rfl)
                    refine want_free rfl ?_
                    rw [Array.getD_eq_getD_getElem?] at d55
                    go_simp
                    exact hK _ _ (Ext.refl _) (fun _ => rfl)
                  · intro S W K hE hf hd hK
                    have d52 : S.tmps.getD 52 undef = (.bool true) := hd 1 _ rfl (by kernel_rfl)
                    have d56 : S.tmps.getD 56 undef = (.bool false) := hd 5 _ rfl (by kernel_rfl)
                    refine want_free rfl ?_
                    rw [Array.getD_eq_getD_getElem?] at d52 d56
                    go_simp
                    exact hK _ _ (Ext.refl _) (fun _ => rfl)
                  · intro S W K hE hf hd hK
                    have d57 : S.tmps.getD 57 undef = (.bool true) := hd 6 _ rfl (by kernel_rfl)
                    refine want_free rfl ?_
                    rw [Array.getD_eq_getD_getElem?] at d57
                    go_simp
                    exact hK _ _ (Ext.refl _) (fun _ => rfl)
                  · intro S W K hE hf hd hK
                    have f1 : S.tmps.getD 1 undef = .pointer (some ⟨w.heap.size, 0, none⟩) := hf 1 (by kernel_rfl)
                    have d58 : S.tmps.getD 58 undef = (.bool true) := hd 7 _ rfl (by kernel_rfl)
                    refine want_else (t := 58) d58 rfl rfl rfl rfl ?_
                    exact fun _ => rfl
                  · intro S W K hE hf hd hK
                    have d59 : S.tmps.getD 59 undef = undef := hd 8 _ rfl (by kernel_rfl)
                    have d58 : S.tmps.getD 58 undef = (.bool true) := hd 7 _ rfl (by kernel_rfl)
                    refine want_else (t := 58) d58 rfl rfl rfl rfl ?_
                    exact fun _ => rfl
                  · intro S W K hE hf hd hK
                    have d60 : S.tmps.getD 60 undef = undef := hd 9 _ rfl (by kernel_rfl)
                    have d58 : S.tmps.getD 58 undef = (.bool true) := hd 7 _ rfl (by kernel_rfl)
                    refine want_else (t := 58) d58 rfl rfl rfl rfl ?_
                    exact fun _ => rfl
                  · intro S W K hE hf hd hK
                    have f1 : S.tmps.getD 1 undef = .pointer (some ⟨w.heap.size, 0, none⟩) := hf 1 (by kernel_rfl)
                    have d61 : S.tmps.getD 61 undef = undef := hd 10 _ rfl (by kernel_rfl)
                    refine want_undef (t := 61) d61 rfl rfl rfl ?_
                    exact fun _ => rfl
                  · intro S W K hE hf hd hK
                    have d62 : S.tmps.getD 62 undef = undef := hd 11 _ rfl (by kernel_rfl)
                    have d61 : S.tmps.getD 61 undef = undef := hd 10 _ rfl (by kernel_rfl)
                    refine want_undef (t := 61) d61 rfl rfl rfl ?_
                    exact fun _ => rfl
                  · intro S W K hE hf hd hK
                    have d63 : S.tmps.getD 63 undef = undef := hd 12 _ rfl (by kernel_rfl)
                    have d61 : S.tmps.getD 61 undef = undef := hd 10 _ rfl (by kernel_rfl)
                    refine want_undef (t := 61) d61 rfl rfl rfl ?_
                    exact fun _ => rfl
                  · intro S W K hE hf hd hK
                    have d61 : S.tmps.getD 61 undef = undef := hd 10 _ rfl (by kernel_rfl)
                    have d64 : S.tmps.getD 64 undef = undef := hd 13 _ rfl (by kernel_rfl)
                    have d58 : S.tmps.getD 58 undef = (.bool true) := hd 7 _ rfl (by kernel_rfl)
                    refine want_else (t := 58) d58 rfl rfl rfl rfl ?_
                    exact fun _ => rfl
                  · intro S W K hE hf hd hK
                    have d58 : S.tmps.getD 58 undef = (.bool true) := hd 7 _ rfl (by kernel_rfl)
                    have d65 : S.tmps.getD 65 undef = undef := hd 14 _ rfl (by kernel_rfl)
                    refine want_free rfl ?_
                    rw [Array.getD_eq_getD_getElem?] at d58 d65
                    go_simp
                    exact hK _ _ (Ext.refl _) (fun _ => rfl)
                · intro vs W hE hV
                  have v0 : vs 0 = (.agg #[.int .i64 b.base, .int .i64 b.pid, .int .i64 b.epoch, .int .i64 b.seq, .int .i64 b.kind, .int .i64 b.time, .slice A n c]) := hV 0 _ rfl (fun h => by cases h)
                  have v1 : vs 1 = (.bool true) := hV 1 _ rfl (fun h => by cases h)
                  have v2 : vs 2 = (.pointer (some ⟨w.heap.size, 6, none⟩)) := hV 2 _ rfl (fun h => by cases h)
                  have v3 : vs 3 = (.slice A n c) := hV 3 _ rfl (fun h => by cases h)
                  have v4 : vs 4 = (.int .i64 n) := hV 4 _ rfl (fun h => by cases h)
                  have v5 : vs 5 = (.bool false) := hV 5 _ rfl (fun h => by cases h)
                  have v6 : vs 6 = (.bool true) := hV 6 _ rfl (fun h => by cases h)
                  have v7 : vs 7 = (.bool true) := hV 7 _ rfl (fun h => by cases h)
                  have v8 : vs 8 = undef := hV 8 _ rfl (fun h => by cases h)
                  have v9 : vs 9 = undef := hV 9 _ rfl (fun h => by cases h)
                  have v10 : vs 10 = undef := hV 10 _ rfl (fun h => by cases h)
                  have v11 : vs 11 = undef := hV 11 _ rfl (fun h => by cases h)
                  have v12 : vs 12 = undef := hV 12 _ rfl (fun h => by cases h)
                  have v13 : vs 13 = undef := hV 13 _ rfl (fun h => by cases h)
                  have v14 : vs 14 = undef := hV 14 _ rfl (fun h => by cases h)
                  have v15 : vs 15 = (.bool true) := hV 15 _ rfl (fun h => by cases h)
                  clear hV
                  set_option maxRecDepth 100000 in simp only [putAll, List.map_cons, List.map_nil, List.length_cons, List.length_nil, Nat.reduceAdd, List.range_succ, List.range_zero, List.nil_append, List.cons_append]
                  set_option maxRecDepth 100000 in go_simp
                  rename_i J K' hJ hK'
                  refine hK' _ _ (Met.intro (hJ _ _ ?_))
                  repeat apply Exists.intro
                  refine ⟨?_, rfl⟩
                  exact ⟨congrArg Value.bool (Hc.out.symm), hE⟩
            · have hmk : mk = false := by cases mk; rfl; exact absurd rfl hmk
              have Hm2 := Hm
              rw [hmk] at Hm2
              rw [hmk] at Hbad
              have Hmk := Lib.hid hmk
              clear hmk
              by_cases hn0 : n = 0
              · have hnd : ((n : Int) == 0) = true := by rw [hn0]; rfl
                have hnd2 : decide (n = 0) = true := decide_eq_true hn0
                have Hc := Lib.hid (show f2 = true from by rw [Hbad.out]; simp [hn0])
                clear hn0
                refine wp_region_steps [.eq (.agg #[.int .i64 b.base, .int .i64 b.pid, .int .i64 b.epoch, .int .i64 b.seq, .int .i64 b.kind, .int .i64 b.time, .slice A n c]), .eq (.bool false), .eq (.pointer (some ⟨w.heap.size, 6, none⟩)), .eq (.slice A n c), .eq (.int .i64 n), .eq (.bool true), .eq (.bool true), .eq (.bool true), .eq undef, .eq undef, .eq undef, .eq undef, .eq undef, .eq undef, .eq undef, .eq (.bool true)] (by kernel_rfl) (by kernel_rfl) (all_dst (by kernel_rfl)) ?_ ?_
                · refine ⟨?_, ?_, ?_, ?_, ?_, ?_, ?_, ?_, ?_, ?_, ?_, ?_, ?_, ?_, ?_, ?_, trivial⟩
                  · intro S W K hE hf hd hK
                    have f1 : S.tmps.getD 1 undef = .pointer (some ⟨w.heap.size, 0, none⟩) := hf 1 (by kernel_rfl)
                    refine want_free rfl ?_
                    rw [Array.getD_eq_getD_getElem?] at f1
                    obtain ⟨k0, k1, k2, k3, k4, k5, k6⟩ := (Hp1.out W hE).cells
                    go_simp
                    exact hK _ _ (Ext.refl _) (fun _ => rfl)
                  · intro S W K hE hf hd hK
                    have d51 : S.tmps.getD 51 undef = (.agg #[.int .i64 b.base, .int .i64 b.pid, .int .i64 b.epoch, .int .i64 b.seq, .int .i64 b.kind, .int .i64 b.time, .slice A n c]) := hd 0 _ rfl (by kernel_rfl)
                    refine want_free rfl ?_
                    rw [Array.getD_eq_getD_getElem?] at d51
                    go_simp
                    refine (Hm2.out W).mono ?_
                    rintro e W' ⟨rfl, hb⟩
                    exact hK _ _ hb (fun _ => rfl)
                  · intro S W K hE hf hd hK
                    have f1 : S.tmps.getD 1 undef = .pointer (some ⟨w.heap.size, 0, none⟩) := hf 1 (by kernel_rfl)
                    refine want_free rfl ?_
                    rw [Array.getD_eq_getD_getElem?] at f1
                    go_simp
                    exact hK _ _ (Ext.refl _) (fun _ => rfl)
                  · intro S W K hE hf hd hK
                    have d53 : S.tmps.getD 53 undef = (.pointer (some ⟨w.heap.size, 6, none⟩)) := hd 2 _ rfl (by kernel_rfl)
                    refine want_free rfl ?_
                    rw [Array.getD_eq_getD_getElem?] at d53
                    obtain ⟨k0, k1, k2, k3, k4, k5, k6⟩ := (Hp1.out W hE).cells
                    go_simp
                    exact hK _ _ (Ext.refl _) (fun _ => rfl)
                  · intro S W K hE hf hd hK
                    have d54 : S.tmps.getD 54 undef = (.slice A n c) := hd 3 _ rfl (by kernel_rfl)
                    refine want_free rfl ?_
                    rw [Array.getD_eq_getD_getElem?] at d54
                    go_simp
                    exact hK _ _ (Ext.refl _) (fun _ => rfl)
                  · intro S W K hE hf hd hK
                    have d55 : S.tmps.getD 55 undef = (.int .i64 n) := hd 4 _ rfl (by kernel_rfl)
                    refine want_free rfl ?_
                    rw [Array.getD_eq_getD_getElem?] at d55
                    go_simp
                    exact hK _ _ (Ext.refl _) (fun _ => rfl)
                  · intro S W K hE hf hd hK
                    have d52 : S.tmps.getD 52 undef = (.bool false) := hd 1 _ rfl (by kernel_rfl)
                    have d56 : S.tmps.getD 56 undef = (.bool true) := hd 5 _ rfl (by kernel_rfl)
                    refine want_free rfl ?_
                    rw [Array.getD_eq_getD_getElem?] at d52 d56
                    go_simp
                    exact hK _ _ (Ext.refl _) (fun _ => rfl)
                  · intro S W K hE hf hd hK
                    have d57 : S.tmps.getD 57 undef = (.bool true) := hd 6 _ rfl (by kernel_rfl)
                    refine want_free rfl ?_
                    rw [Array.getD_eq_getD_getElem?] at d57
                    go_simp
                    exact hK _ _ (Ext.refl _) (fun _ => rfl)
                  · intro S W K hE hf hd hK
                    have f1 : S.tmps.getD 1 undef = .pointer (some ⟨w.heap.size, 0, none⟩) := hf 1 (by kernel_rfl)
                    have d58 : S.tmps.getD 58 undef = (.bool true) := hd 7 _ rfl (by kernel_rfl)
                    refine want_else (t := 58) d58 rfl rfl rfl rfl ?_
                    exact fun _ => rfl
                  · intro S W K hE hf hd hK
                    have d59 : S.tmps.getD 59 undef = undef := hd 8 _ rfl (by kernel_rfl)
                    have d58 : S.tmps.getD 58 undef = (.bool true) := hd 7 _ rfl (by kernel_rfl)
                    refine want_else (t := 58) d58 rfl rfl rfl rfl ?_
                    exact fun _ => rfl
                  · intro S W K hE hf hd hK
                    have d60 : S.tmps.getD 60 undef = undef := hd 9 _ rfl (by kernel_rfl)
                    have d58 : S.tmps.getD 58 undef = (.bool true) := hd 7 _ rfl (by kernel_rfl)
                    refine want_else (t := 58) d58 rfl rfl rfl rfl ?_
                    exact fun _ => rfl
                  · intro S W K hE hf hd hK
                    have f1 : S.tmps.getD 1 undef = .pointer (some ⟨w.heap.size, 0, none⟩) := hf 1 (by kernel_rfl)
                    have d61 : S.tmps.getD 61 undef = undef := hd 10 _ rfl (by kernel_rfl)
                    refine want_undef (t := 61) d61 rfl rfl rfl ?_
                    exact fun _ => rfl
                  · intro S W K hE hf hd hK
                    have d62 : S.tmps.getD 62 undef = undef := hd 11 _ rfl (by kernel_rfl)
                    have d61 : S.tmps.getD 61 undef = undef := hd 10 _ rfl (by kernel_rfl)
                    refine want_undef (t := 61) d61 rfl rfl rfl ?_
                    exact fun _ => rfl
                  · intro S W K hE hf hd hK
                    have d63 : S.tmps.getD 63 undef = undef := hd 12 _ rfl (by kernel_rfl)
                    have d61 : S.tmps.getD 61 undef = undef := hd 10 _ rfl (by kernel_rfl)
                    refine want_undef (t := 61) d61 rfl rfl rfl ?_
                    exact fun _ => rfl
                  · intro S W K hE hf hd hK
                    have d61 : S.tmps.getD 61 undef = undef := hd 10 _ rfl (by kernel_rfl)
                    have d64 : S.tmps.getD 64 undef = undef := hd 13 _ rfl (by kernel_rfl)
                    have d58 : S.tmps.getD 58 undef = (.bool true) := hd 7 _ rfl (by kernel_rfl)
                    refine want_else (t := 58) d58 rfl rfl rfl rfl ?_
                    exact fun _ => rfl
                  · intro S W K hE hf hd hK
                    have d58 : S.tmps.getD 58 undef = (.bool true) := hd 7 _ rfl (by kernel_rfl)
                    have d65 : S.tmps.getD 65 undef = undef := hd 14 _ rfl (by kernel_rfl)
                    refine want_free rfl ?_
                    rw [Array.getD_eq_getD_getElem?] at d58 d65
                    go_simp
                    exact hK _ _ (Ext.refl _) (fun _ => rfl)
                · intro vs W hE hV
                  have v0 : vs 0 = (.agg #[.int .i64 b.base, .int .i64 b.pid, .int .i64 b.epoch, .int .i64 b.seq, .int .i64 b.kind, .int .i64 b.time, .slice A n c]) := hV 0 _ rfl (fun h => by cases h)
                  have v1 : vs 1 = (.bool false) := hV 1 _ rfl (fun h => by cases h)
                  have v2 : vs 2 = (.pointer (some ⟨w.heap.size, 6, none⟩)) := hV 2 _ rfl (fun h => by cases h)
                  have v3 : vs 3 = (.slice A n c) := hV 3 _ rfl (fun h => by cases h)
                  have v4 : vs 4 = (.int .i64 n) := hV 4 _ rfl (fun h => by cases h)
                  have v5 : vs 5 = (.bool true) := hV 5 _ rfl (fun h => by cases h)
                  have v6 : vs 6 = (.bool true) := hV 6 _ rfl (fun h => by cases h)
                  have v7 : vs 7 = (.bool true) := hV 7 _ rfl (fun h => by cases h)
                  have v8 : vs 8 = undef := hV 8 _ rfl (fun h => by cases h)
                  have v9 : vs 9 = undef := hV 9 _ rfl (fun h => by cases h)
                  have v10 : vs 10 = undef := hV 10 _ rfl (fun h => by cases h)
                  have v11 : vs 11 = undef := hV 11 _ rfl (fun h => by cases h)
                  have v12 : vs 12 = undef := hV 12 _ rfl (fun h => by cases h)
                  have v13 : vs 13 = undef := hV 13 _ rfl (fun h => by cases h)
                  have v14 : vs 14 = undef := hV 14 _ rfl (fun h => by cases h)
                  have v15 : vs 15 = (.bool true) := hV 15 _ rfl (fun h => by cases h)
                  clear hV
                  set_option maxRecDepth 100000 in simp only [putAll, List.map_cons, List.map_nil, List.length_cons, List.length_nil, Nat.reduceAdd, List.range_succ, List.range_zero, List.nil_append, List.cons_append]
                  set_option maxRecDepth 100000 in go_simp
                  rename_i J K' hJ hK'
                  refine hK' _ _ (Met.intro (hJ _ _ ?_))
                  repeat apply Exists.intro
                  refine ⟨?_, rfl⟩
                  exact ⟨congrArg Value.bool (Hc.out.symm), hE⟩
              · have Hc := Lib.hid (show f2 = false from by rw [Hbad.out]; simp [hn0])
                have hnd : ((n : Int) == 0) = false := by rw [beq_eq_false_iff_ne]; omega
                have hnd2 : decide (n = 0) = false := decide_eq_false hn0
                clear hn0
                refine wp_region_steps [.eq (.agg #[.int .i64 b.base, .int .i64 b.pid, .int .i64 b.epoch, .int .i64 b.seq, .int .i64 b.kind, .int .i64 b.time, .slice A n c]), .eq (.bool false), .eq (.pointer (some ⟨w.heap.size, 6, none⟩)), .eq (.slice A n c), .eq (.int .i64 n), .eq (.bool false), .eq (.bool false), .eq (.bool false), .eq (.agg #[.int .i64 b.base, .int .i64 b.pid, .int .i64 b.epoch, .int .i64 b.seq, .int .i64 b.kind, .int .i64 b.time, .slice A n c]), .eq (.bool false), .eq (.bool false), .eq undef, .eq undef, .eq undef, .eq (.bool false), .eq (.bool false)] (by kernel_rfl) (by kernel_rfl) (all_dst (by kernel_rfl)) ?_ ?_
                · refine ⟨?_, ?_, ?_, ?_, ?_, ?_, ?_, ?_, ?_, ?_, ?_, ?_, ?_, ?_, ?_, ?_, trivial⟩
                  · intro S W K hE hf hd hK
                    have f1 : S.tmps.getD 1 undef = .pointer (some ⟨w.heap.size, 0, none⟩) := hf 1 (by kernel_rfl)
                    refine want_free rfl ?_
                    rw [Array.getD_eq_getD_getElem?] at f1
                    obtain ⟨k0, k1, k2, k3, k4, k5, k6⟩ := (Hp1.out W hE).cells
                    go_simp
                    exact hK _ _ (Ext.refl _) (fun _ => rfl)
                  · intro S W K hE hf hd hK
                    have d51 : S.tmps.getD 51 undef = (.agg #[.int .i64 b.base, .int .i64 b.pid, .int .i64 b.epoch, .int .i64 b.seq, .int .i64 b.kind, .int .i64 b.time, .slice A n c]) := hd 0 _ rfl (by kernel_rfl)
                    refine want_free rfl ?_
                    rw [Array.getD_eq_getD_getElem?] at d51
                    go_simp
                    refine (Hm2.out W).mono ?_
                    rintro e W' ⟨rfl, hb⟩
                    exact hK _ _ hb (fun _ => rfl)
                  · intro S W K hE hf hd hK
                    have f1 : S.tmps.getD 1 undef = .pointer (some ⟨w.heap.size, 0, none⟩) := hf 1 (by kernel_rfl)
                    refine want_free rfl ?_
                    rw [Array.getD_eq_getD_getElem?] at f1
                    go_simp
                    exact hK _ _ (Ext.refl _) (fun _ => rfl)
                  · intro S W K hE hf hd hK
                    have d53 : S.tmps.getD 53 undef = (.pointer (some ⟨w.heap.size, 6, none⟩)) := hd 2 _ rfl (by kernel_rfl)
                    refine want_free rfl ?_
                    rw [Array.getD_eq_getD_getElem?] at d53
                    obtain ⟨k0, k1, k2, k3, k4, k5, k6⟩ := (Hp1.out W hE).cells
                    go_simp
                    exact hK _ _ (Ext.refl _) (fun _ => rfl)
                  · intro S W K hE hf hd hK
                    have d54 : S.tmps.getD 54 undef = (.slice A n c) := hd 3 _ rfl (by kernel_rfl)
                    refine want_free rfl ?_
                    rw [Array.getD_eq_getD_getElem?] at d54
                    go_simp
                    exact hK _ _ (Ext.refl _) (fun _ => rfl)
                  · intro S W K hE hf hd hK
                    have d55 : S.tmps.getD 55 undef = (.int .i64 n) := hd 4 _ rfl (by kernel_rfl)
                    refine want_free rfl ?_
                    rw [Array.getD_eq_getD_getElem?] at d55
                    go_simp
                    exact hK _ _ (Ext.refl _) (fun _ => rfl)
                  · intro S W K hE hf hd hK
                    have d52 : S.tmps.getD 52 undef = (.bool false) := hd 1 _ rfl (by kernel_rfl)
                    have d56 : S.tmps.getD 56 undef = (.bool false) := hd 5 _ rfl (by kernel_rfl)
                    refine want_free rfl ?_
                    rw [Array.getD_eq_getD_getElem?] at d52 d56
                    go_simp
                    exact hK _ _ (Ext.refl _) (fun _ => rfl)
                  · intro S W K hE hf hd hK
                    have d57 : S.tmps.getD 57 undef = (.bool false) := hd 6 _ rfl (by kernel_rfl)
                    refine want_free rfl ?_
                    rw [Array.getD_eq_getD_getElem?] at d57
                    go_simp
                    exact hK _ _ (Ext.refl _) (fun _ => rfl)
                  · intro S W K hE hf hd hK
                    have f1 : S.tmps.getD 1 undef = .pointer (some ⟨w.heap.size, 0, none⟩) := hf 1 (by kernel_rfl)
                    have d58 : S.tmps.getD 58 undef = (.bool false) := hd 7 _ rfl (by kernel_rfl)
                    refine want_then (t := 58) d58 rfl rfl rfl ?_
                    rw [Array.getD_eq_getD_getElem?] at f1 d58
                    obtain ⟨k0, k1, k2, k3, k4, k5, k6⟩ := (Hp1.out W hE).cells
                    go_simp
                    exact hK _ _ (Ext.refl _) (fun _ => rfl)
                  · intro S W K hE hf hd hK
                    have d59 : S.tmps.getD 59 undef = (.agg #[.int .i64 b.base, .int .i64 b.pid, .int .i64 b.epoch, .int .i64 b.seq, .int .i64 b.kind, .int .i64 b.time, .slice A n c]) := hd 8 _ rfl (by kernel_rfl)
                    have d58 : S.tmps.getD 58 undef = (.bool false) := hd 7 _ rfl (by kernel_rfl)
                    refine want_then (t := 58) d58 rfl rfl rfl ?_
                    rw [Array.getD_eq_getD_getElem?] at d59 d58
                    go_simp
                    refine (Hm2.out W).mono ?_
                    rintro e W' ⟨rfl, hb⟩
                    exact hK _ _ hb (fun _ => rfl)
                  · intro S W K hE hf hd hK
                    have d60 : S.tmps.getD 60 undef = (.bool false) := hd 9 _ rfl (by kernel_rfl)
                    have d58 : S.tmps.getD 58 undef = (.bool false) := hd 7 _ rfl (by kernel_rfl)
                    refine want_then (t := 58) d58 rfl rfl rfl ?_
                    rw [Array.getD_eq_getD_getElem?] at d60 d58
                    go_simp
                    exact hK _ _ (Ext.refl _) (fun _ => rfl)
                  · intro S W K hE hf hd hK
                    have f1 : S.tmps.getD 1 undef = .pointer (some ⟨w.heap.size, 0, none⟩) := hf 1 (by kernel_rfl)
                    have d61 : S.tmps.getD 61 undef = (.bool false) := hd 10 _ rfl (by kernel_rfl)
                    refine want_else (t := 61) d61 rfl rfl rfl rfl ?_
                    exact fun _ => rfl
                  · intro S W K hE hf hd hK
                    have d62 : S.tmps.getD 62 undef = undef := hd 11 _ rfl (by kernel_rfl)
                    have d61 : S.tmps.getD 61 undef = (.bool false) := hd 10 _ rfl (by kernel_rfl)
                    refine want_else (t := 61) d61 rfl rfl rfl rfl ?_
                    exact fun _ => rfl
                  · intro S W K hE hf hd hK
                    have d63 : S.tmps.getD 63 undef = undef := hd 12 _ rfl (by kernel_rfl)
                    have d61 : S.tmps.getD 61 undef = (.bool false) := hd 10 _ rfl (by kernel_rfl)
                    refine want_else (t := 61) d61 rfl rfl rfl rfl ?_
                    exact fun _ => rfl
                  · intro S W K hE hf hd hK
                    have d61 : S.tmps.getD 61 undef = (.bool false) := hd 10 _ rfl (by kernel_rfl)
                    have d64 : S.tmps.getD 64 undef = undef := hd 13 _ rfl (by kernel_rfl)
                    have d58 : S.tmps.getD 58 undef = (.bool false) := hd 7 _ rfl (by kernel_rfl)
                    refine want_then (t := 58) d58 rfl rfl rfl ?_
                    rw [Array.getD_eq_getD_getElem?] at d61 d64 d58
                    go_simp
                    exact hK _ _ (Ext.refl _) (fun _ => rfl)
                  · intro S W K hE hf hd hK
                    have d58 : S.tmps.getD 58 undef = (.bool false) := hd 7 _ rfl (by kernel_rfl)
                    have d65 : S.tmps.getD 65 undef = (.bool false) := hd 14 _ rfl (by kernel_rfl)
                    refine want_free rfl ?_
                    rw [Array.getD_eq_getD_getElem?] at d58 d65
                    go_simp
                    exact hK _ _ (Ext.refl _) (fun _ => rfl)
                · intro vs W hE hV
                  have v0 : vs 0 = (.agg #[.int .i64 b.base, .int .i64 b.pid, .int .i64 b.epoch, .int .i64 b.seq, .int .i64 b.kind, .int .i64 b.time, .slice A n c]) := hV 0 _ rfl (fun h => by cases h)
                  have v1 : vs 1 = (.bool false) := hV 1 _ rfl (fun h => by cases h)
                  have v2 : vs 2 = (.pointer (some ⟨w.heap.size, 6, none⟩)) := hV 2 _ rfl (fun h => by cases h)
                  have v3 : vs 3 = (.slice A n c) := hV 3 _ rfl (fun h => by cases h)
                  have v4 : vs 4 = (.int .i64 n) := hV 4 _ rfl (fun h => by cases h)
                  have v5 : vs 5 = (.bool false) := hV 5 _ rfl (fun h => by cases h)
                  have v6 : vs 6 = (.bool false) := hV 6 _ rfl (fun h => by cases h)
                  have v7 : vs 7 = (.bool false) := hV 7 _ rfl (fun h => by cases h)
                  have v8 : vs 8 = (.agg #[.int .i64 b.base, .int .i64 b.pid, .int .i64 b.epoch, .int .i64 b.seq, .int .i64 b.kind, .int .i64 b.time, .slice A n c]) := hV 8 _ rfl (fun h => by cases h)
                  have v9 : vs 9 = (.bool false) := hV 9 _ rfl (fun h => by cases h)
                  have v10 : vs 10 = (.bool false) := hV 10 _ rfl (fun h => by cases h)
                  have v11 : vs 11 = undef := hV 11 _ rfl (fun h => by cases h)
                  have v12 : vs 12 = undef := hV 12 _ rfl (fun h => by cases h)
                  have v13 : vs 13 = undef := hV 13 _ rfl (fun h => by cases h)
                  have v14 : vs 14 = (.bool false) := hV 14 _ rfl (fun h => by cases h)
                  have v15 : vs 15 = (.bool false) := hV 15 _ rfl (fun h => by cases h)
                  clear hV
                  set_option maxRecDepth 100000 in simp only [putAll, List.map_cons, List.map_nil, List.length_cons, List.length_nil, Nat.reduceAdd, List.range_succ, List.range_zero, List.nil_append, List.cons_append]
                  set_option maxRecDepth 100000 in go_simp
                  rename_i J K' hJ hK'
                  refine hK' _ _ (Met.intro (hJ _ _ ?_))
                  repeat apply Exists.intro
                  refine ⟨?_, rfl⟩
                  exact ⟨congrArg Value.bool (Hc.out.symm), hE⟩
          case rest =>
            obtain ⟨rfl, hE2⟩ := hcut
            have hE2' := Ext.trans _ _ _ HE.out hE2
            cases hfv : f2 with
            | true =>
              have Hf2 := Lib.hid hfv
              clear hfv
              go_wp2
              go_ret
              exact ⟨ret_i64 (by rw [← Hv.out, if_pos (.inr (Hfb.out.2 (.inr Hf2.out)))]), hE2'⟩
            | false =>
              have hfit : ¬ (nb = false ∨ fb = false) := by
                rintro (h | h)
                · rw [Hn2.out] at h; cases h
                · rcases Hfb.out.1 h with h | h
                  · exact Hq2.out h
                  · rw [hfv] at h; cases h
              have hv2 := Hv.out
              rw [if_neg hfit] at hv2
              have Hv2 := Lib.hid hv2
              clear hv2 hfit hfv Hv Hfb Hbad
              obtain ⟨k0, k1, k2, k3, k4, k5, k6⟩ := (Hp1.out _ hE2).cells
              by_cases h64 : 64 < n
              · have Hh := Lib.hid h64
                have h64i : (64 : Int) < (n : Int) := by omega
                clear h64
                go_wp2
                go_ret
                exact ⟨ret_i64 (by rw [← Hv2.out, if_pos Hh.out]), hE2'⟩
              · have Hh := Lib.hid h64
                have h64i : (n : Int) ≤ 64 := by omega
                clear h64
                go_wp2_with fail
                have hN := Hnb.out.1 Hn2.out
                obtain ⟨n1, n2, n3, n4, n5, n6⟩ := hN
                have Hn123 := Lib.hid (And.intro n2 (And.intro n3 n5))
                clear n1 n2 n3 n4 n5 n6 k0 k1 k2 k3 k4 k5 k6
                go_loopw [74] (fun i wr => ∃ k : Nat, k ≤ n ∧ i = .int .i64 k ∧ Hid (recsE (b.l.take k) = 0) ∧ Ext wc wr) (fun i _ => n - (intOf i).toNat)
                case atStart => exact ⟨0, Nat.zero_le _, rfl, Lib.hid rfl, Ext.refl _⟩
                case round =>
                  obtain ⟨k, hk, rfl, Hr, hEr⟩ := hrel
                  have hEw := Ext.trans _ _ _ hE2' hEr
                  by_cases hlt : k < n
                  · obtain ⟨ad, rfl, hcc, hro⟩ := rec_at (Hrow.out wr hEw) k (by rw [Hnl.out]; exact hlt)
                    have Hsn := Lib.hid (show recsE (b.l.take (k + 1)) = recE (b.l[k]'(by rw [Hnl.out]; exact hlt)) from by rw [List.take_succ_eq_append_getElem]; exact recsE_snoc Hr.out)
                    have Hat := Lib.hid (recsE_at (l := b.l) (k := k) (by rw [Hnl.out]; exact hlt) Hr.out)
                    have hmeas := Lib.hid (@meas_up k n hlt)
                    generalize b.l[k]'(by rw [Hnl.out]; exact hlt) = r at *
                    obtain ⟨kk, vv, gg, tt⟩ := r
                    obtain ⟨c0, c1, c2, c3⟩ := hcc
                    obtain ⟨r1, r2, r3⟩ := hro
                    have her : recE (kk, vv, gg, tt) = if 1024 < kk.size ∨ 1024 < vv.size then 7 else if (¬ (0 ≤ tt ∧ tt ≤ 1099511627776)) ∨ (gg = true ∧ vv.size ≠ 0) then 2 else 0 := rfl
                    generalize recE (kk, vv, gg, tt) = er at *
                    have Her := Lib.hid her
                    simp only at c0 c1 c2 c3 r1 r2
                    have hEa := Lib.hid (Ext.alloc wr (.cells #[.string kk, .string vv, .bool gg, .int .i64 tt] 54))
                    clear r3 her
                    go_wp2_with (go_at_call 72; refine (Rout_calls _ _ _ _).mono ?_; rintro e w' ⟨rfl, rfl⟩)
                    all_goals first
                      | (go_ret
                         refine ⟨ret_i64 ?_, Ext.trans _ _ _ hEw (Ext.alloc _ _)⟩
                         have h7 : er = 7 := by rw [Her.out, if_pos (by omega)]
                         have hne : er ≠ 0 := by omega
                         have ha := Hat.out hne
                         rw [← Hv2.out, if_neg Hh.out, if_pos (by rw [ha]; exact hne), ha, h7]
                         done)
                      | (go_ret
                         refine ⟨ret_i64 ?_, Ext.trans _ _ _ hEw (Ext.alloc _ _)⟩
                         have h2 : er = 2 := by rw [Her.out, if_neg (by omega), if_pos (by first | omega | (right; refine ⟨by assumption, by omega⟩) | simp_all)]
                         have hne : er ≠ 0 := by omega
                         have ha := Hat.out hne
                         rw [← Hv2.out, if_neg Hh.out, if_pos (by rw [ha]; exact hne), ha, h2]
                         done)
                      | (refine ⟨⟨k + 1, hlt, by rw [Int.natCast_succ], Lib.hid ?_, Ext.trans _ _ _ hEr (Ext.alloc _ _)⟩, hmeas.out⟩
                         rw [Hsn.out, Her.out, if_neg (by omega), if_neg (by first | omega | (rintro (h | ⟨h, h2⟩); omega; first | omega | simp_all) | simp_all)])
                  · have Hkn := Lib.hid (show k = n by omega)
                    have hrs : recsE b.l = 0 := by
                      have := Hr.out
                      rwa [Hkn.out, ← Hnl.out, List.take_length] at this
                    have hv3 := Hv2.out
                    rw [if_neg Hh.out, if_neg (by rw [hrs]; exact fun h => h rfl)] at hv3
                    have Hv3 := Lib.hid hv3
                    have hge : ¬ (k : Int) < (n : Int) := by omega
                    clear hv3 hrs Hv2 hlt
                    obtain ⟨n2, n3, n5⟩ := Hn123.out
                    have hsp65 : sp ≤ 65 := by rw [Hsp.out]; split <;> omega
                    have kwa : IntKind.i64.wrap (b.base + (sp : Int)) = b.base + (sp : Int) := IntWalk.i64_in _ (by omega)
                    have kwb : IntKind.i64.wrap (b.base + (sp : Int) - 1) = b.base + (sp : Int) - 1 := IntWalk.i64_in _ (by omega)
                    have Hp3 := Lib.hid (fun W (hE : Ext wr W) => Hp1.out W (Ext.trans _ _ _ (Ext.trans _ _ _ hE2 hEr) hE))
                    obtain ⟨b1, hb1⟩ : ∃ b1, decide (1099511627776 < b.base + (sp : Int) - 1) = b1 := ⟨_, rfl⟩
                    have Hb1 := Lib.hid hb1
                    go_upto_region 17 with fail
                    refine wp_region_steps [.eq (.pointer (some ⟨w.heap.size, 0, none⟩)), .eq (.int .i64 b.base), .eq (.agg #[.int .i64 b.base, .int .i64 b.pid, .int .i64 b.epoch, .int .i64 b.seq, .int .i64 b.kind, .int .i64 b.time, .slice A n c]), .eq (.int .i64 (sp : Nat)), .eq (.int .i64 (b.base + (sp : Nat))), .eq (.int .i64 (b.base + (sp : Nat) - 1)), .eq (.bool b1)] (by kernel_rfl) (by kernel_rfl) (all_dst (by kernel_rfl)) ?_ ?_
                    · refine ⟨?_, ?_, ?_, ?_, ?_, ?_, ?_, trivial⟩
                      · intro S W K hE hf hd hK
                        have f1 : S.tmps.getD 1 undef = .pointer (some ⟨w.heap.size, 0, none⟩) := hf 1 (by kernel_rfl)
                        refine want_free rfl ?_
                        rw [Array.getD_eq_getD_getElem?] at f1
                        go_simp
                        exact hK _ _ (Ext.refl _) (fun _ => rfl)
                      · intro S W K hE hf hd hK
                        have d102 : S.tmps.getD 102 undef = (.pointer (some ⟨w.heap.size, 0, none⟩)) := hd 0 _ rfl (by kernel_rfl)
                        refine want_free rfl ?_
                        rw [Array.getD_eq_getD_getElem?] at d102
                        obtain ⟨k0, k1, k2, k3, k4, k5, k6⟩ := (Hp3.out W hE).cells
                        go_simp
                        exact hK _ _ (Ext.refl _) (fun _ => rfl)
                      · intro S W K hE hf hd hK
                        have f1 : S.tmps.getD 1 undef = .pointer (some ⟨w.heap.size, 0, none⟩) := hf 1 (by kernel_rfl)
                        refine want_free rfl ?_
                        rw [Array.getD_eq_getD_getElem?] at f1
                        obtain ⟨k0, k1, k2, k3, k4, k5, k6⟩ := (Hp3.out W hE).cells
                        go_simp
                        exact hK _ _ (Ext.refl _) (fun _ => rfl)
                      · intro S W K hE hf hd hK
                        have d104 : S.tmps.getD 104 undef = (.agg #[.int .i64 b.base, .int .i64 b.pid, .int .i64 b.epoch, .int .i64 b.seq, .int .i64 b.kind, .int .i64 b.time, .slice A n c]) := hd 2 _ rfl (by kernel_rfl)
                        refine want_free rfl ?_
                        rw [Array.getD_eq_getD_getElem?] at d104
                        go_simp
                        refine (Hs.out W).mono ?_
                        rintro e W' ⟨rfl, hb⟩
                        exact hK _ _ hb (fun _ => rfl)
                      · intro S W K hE hf hd hK
                        have d103 : S.tmps.getD 103 undef = (.int .i64 b.base) := hd 1 _ rfl (by kernel_rfl)
                        have d105 : S.tmps.getD 105 undef = (.int .i64 (sp : Nat)) := hd 3 _ rfl (by kernel_rfl)
                        refine want_free rfl ?_
                        rw [Array.getD_eq_getD_getElem?] at d103 d105
                        go_simp
                        exact hK _ _ (Ext.refl _) (fun _ => rfl)
                      · intro S W K hE hf hd hK
                        have d106 : S.tmps.getD 106 undef = (.int .i64 (b.base + (sp : Nat))) := hd 4 _ rfl (by kernel_rfl)
                        refine want_free rfl ?_
                        rw [Array.getD_eq_getD_getElem?] at d106
                        go_simp
                        exact hK _ _ (Ext.refl _) (fun _ => rfl)
                      · intro S W K hE hf hd hK
                        have d107 : S.tmps.getD 107 undef = (.int .i64 (b.base + (sp : Nat) - 1)) := hd 5 _ rfl (by kernel_rfl)
                        refine want_free rfl ?_
                        rw [Array.getD_eq_getD_getElem?] at d107
                        go_simp
                        exact hK _ _ (Ext.refl _) (fun _ => rfl)
                    · intro vs W hE hV
                      have v0 : vs 0 = (.pointer (some ⟨w.heap.size, 0, none⟩)) := hV 0 _ rfl (fun h => by cases h)
                      have v1 : vs 1 = (.int .i64 b.base) := hV 1 _ rfl (fun h => by cases h)
                      have v2 : vs 2 = (.agg #[.int .i64 b.base, .int .i64 b.pid, .int .i64 b.epoch, .int .i64 b.seq, .int .i64 b.kind, .int .i64 b.time, .slice A n c]) := hV 2 _ rfl (fun h => by cases h)
                      have v3 : vs 3 = (.int .i64 (sp : Nat)) := hV 3 _ rfl (fun h => by cases h)
                      have v4 : vs 4 = (.int .i64 (b.base + (sp : Nat))) := hV 4 _ rfl (fun h => by cases h)
                      have v5 : vs 5 = (.int .i64 (b.base + (sp : Nat) - 1)) := hV 5 _ rfl (fun h => by cases h)
                      have v6 : vs 6 = (.bool b1) := hV 6 _ rfl (fun h => by cases h)
                      clear hV
                      set_option maxRecDepth 100000 in simp only [putAll, List.map_cons, List.map_nil, List.length_cons, List.length_nil, Nat.reduceAdd, List.range_succ, List.range_zero, List.nil_append, List.cons_append]
                      set_option maxRecDepth 100000 in go_simp
                      have hEW := Ext.trans _ _ _ hEw hE
                      clear kwa kwb hb1
                      cases hbv : b1 with
                      | true =>
                        have Hb2 := Lib.hid (of_decide_eq_true (Hb1.out.trans hbv))
                        clear hbv
                        go_wp2
                        go_ret
                        exact ⟨ret_i64 (over24 Hov.out Hv3.out (.inl (by have := Hb2.out; omega))), hEW⟩
                      | false =>
                        have Hb2 := Lib.hid (of_decide_eq_false (Hb1.out.trans hbv))
                        clear hbv
                        obtain ⟨k0, k1, k2, k3, k4, k5, k6⟩ := (Hp3.out _ hE).cells
                        have hsp3 : mk = false → sp = n := fun h => by rw [Hsp.out, h]; rfl
                        have Hsp3 := Lib.hid hsp3
                        clear hsp3
                        cases mk
                        all_goals
                          go_wp2_with (go_at_call 53; refine (Hm.out _).mono ?_; rintro e w6 ⟨rfl, hE6⟩; obtain ⟨s0, s1, s2, s3, s4, s5, s6⟩ := (Hp3.out _ (Ext.trans _ _ _ hE hE6)).cells)
                        all_goals go_ret
                        all_goals
                          refine ⟨ret_i64 ?_, ?_⟩
                          · have hb2 := Hb2.out
                            first
                            | (refine over0 Hov.out Hv3.out ?_; rintro (h | ⟨h, h2, h3⟩); omega; omega)
                            | (refine over0 Hov.out Hv3.out ?_; rintro (h | ⟨h, h2, h3⟩); omega; first | exact h2.elim | exact Bool.noConfusion h2)
                            | (have hsn := Hsp3.out (by first | rfl | trivial); refine over24 Hov.out Hv3.out ?_; right; refine ⟨?_, ?_, ?_⟩; omega; trivial; omega)
                            | (have hsn := Hsp3.out (by first | rfl | trivial); refine over0 Hov.out Hv3.out ?_; rintro (h | ⟨h, h2, h3⟩); omega; omega)
                          · first
                            | exact hEW
                            | exact Ext.trans _ _ _ hEW (by assumption)
end Go.Proofs.Ytaomhedjamnloaa
