/- Contract: rec.Same. -/
import Derived.Test.YtaomhedjamnloaaRecH
set_option linter.unusedVariables false
set_option linter.unusedSimpArgs false
namespace Go.Proofs.Ytaomhedjamnloaa
open Go Go.RowKit

set_option maxRecDepth 8000 in
set_option maxHeartbeats 1600000 in
theorem Same_calls (w : World) (B : Nat) (hB : B ≤ w.heap.size) (a b : BtM) (A A' : Option Addr) (c c' : Nat) (ha : BtAt w B a A c) (hb : BtAt w B b A' c') :
    Calls Try.prog 27 #[.agg (btC a A c), .agg (btC b A' c')] w fun e w' => e = .returned (.bool (sameB a b)) ∧ Ext w w' := by
  have Hra := Lib.hid (fun W (hE : Ext w W) => ha.row.belowF (fun _ hk => Nat.lt_of_lt_of_le hk hB) hE)
  have Hrb := Lib.hid (fun W (hE : Ext w W) => hb.row.belowF (fun _ hk => Nat.lt_of_lt_of_le hk hB) hE)
  have hla := ha.lc
  have hlb := hb.lc
  have hla63 : a.l.length ≤ 9223372036854775807 := by unfold maxLen at hla; omega
  have hlb63 : b.l.length ≤ 9223372036854775807 := by unfold maxLen at hlb; omega
  clear ha hb hla hlb
  obtain ⟨h1, h2, h3, h4⟩ := two_new w (.cells (btC a A c) 24) (.cells (btC b A' c') 24)
  have Hp := Lib.hid (And.intro h1 (And.intro h2 (And.intro h3 h4)))
  clear h1 h2 h3 h4
  have Hsm : Hid (sameB a b = decide (a.base = b.base ∧ a.pid = b.pid ∧ a.epoch = b.epoch ∧ a.seq = b.seq ∧ a.kind = b.kind ∧ a.time = b.time ∧ a.l = b.l)) := Lib.hid rfl
  generalize sameB a b = sm at *
  obtain ⟨d1, hd1⟩ : ∃ d1, d1 = decide (¬ (a.base = b.base ∧ a.pid = b.pid ∧ a.epoch = b.epoch ∧ a.seq = b.seq ∧ a.kind = b.kind ∧ a.time = b.time ∧ a.l.length = b.l.length)) := ⟨_, rfl⟩
  have Hd1 := Lib.hid hd1
  clear hd1
  unfold btC at *
  go_enter Try.func27, Try.ntmps27
  go_upto_region 1 with fail
  generalize (w.alloc _).alloc _ = w1 at *
  have hE1 := Hp.out.2.2.1
  have hs1 := Hp.out.2.2.2
  have Hpa := Lib.hid (fun W (hE : Ext w1 W) => (hE.block _ (by omega)).trans Hp.out.1)
  have Hpb := Lib.hid (fun W (hE : Ext w1 W) => (hE.block _ (by omega)).trans Hp.out.2.1)
  have a0 := (cell_of (Hpa.out w1 (Ext.refl _)) 0).trans rfl
  have a1 := (cell_of (Hpa.out w1 (Ext.refl _)) 1).trans rfl
  have a2 := (cell_of (Hpa.out w1 (Ext.refl _)) 2).trans rfl
  have a3 := (cell_of (Hpa.out w1 (Ext.refl _)) 3).trans rfl
  have a4 := (cell_of (Hpa.out w1 (Ext.refl _)) 4).trans rfl
  have a5 := (cell_of (Hpa.out w1 (Ext.refl _)) 5).trans rfl
  have a6 := (cell_of (Hpa.out w1 (Ext.refl _)) 6).trans rfl
  have b0 := (cell_of (Hpb.out w1 (Ext.refl _)) 0).trans rfl
  have b1 := (cell_of (Hpb.out w1 (Ext.refl _)) 1).trans rfl
  have b2 := (cell_of (Hpb.out w1 (Ext.refl _)) 2).trans rfl
  have b3 := (cell_of (Hpb.out w1 (Ext.refl _)) 3).trans rfl
  have b4 := (cell_of (Hpb.out w1 (Ext.refl _)) 4).trans rfl
  have b5 := (cell_of (Hpb.out w1 (Ext.refl _)) 5).trans rfl
  have b6 := (cell_of (Hpb.out w1 (Ext.refl _)) 6).trans rfl
  go_cut [55] (fun v wx => v = .bool d1 ∧ w1 = wx)
  case first =>
    by_cases h0 : a.base = b.base
    · have e0 : (a.base != b.base) = false := by rw [bne_eq_false_iff_eq]; exact h0
      have x0 := Lib.hid h0
      clear h0
      by_cases h1 : a.pid = b.pid
      · have e1 : (a.pid != b.pid) = false := by rw [bne_eq_false_iff_eq]; exact h1
        have x1 := Lib.hid h1
        clear h1
        by_cases h2 : a.epoch = b.epoch
        · have e2 : (a.epoch != b.epoch) = false := by rw [bne_eq_false_iff_eq]; exact h2
          have x2 := Lib.hid h2
          clear h2
          by_cases h3 : a.seq = b.seq
          · have e3 : (a.seq != b.seq) = false := by rw [bne_eq_false_iff_eq]; exact h3
            have x3 := Lib.hid h3
            clear h3
            by_cases h4 : a.kind = b.kind
            · have e4 : (a.kind != b.kind) = false := by rw [bne_eq_false_iff_eq]; exact h4
              have x4 := Lib.hid h4
              clear h4
              by_cases h5 : a.time = b.time
              · have e5 : (a.time != b.time) = false := by rw [bne_eq_false_iff_eq]; exact h5
                have x5 := Lib.hid h5
                clear h5
                by_cases h6 : a.l.length = b.l.length
                · have e6 : ((a.l.length : Int) != (b.l.length : Int)) = false := by rw [bne_eq_false_iff_eq]; omega
                  have x6 := Lib.hid h6
                  clear h6
                  go_wp2
                  go_meet
                  exact ⟨congrArg Value.bool (by rw [Hd1.out, eq_comm, decide_eq_false_iff_not, Decidable.not_not]; exact ⟨x0.out, x1.out, x2.out, x3.out, x4.out, x5.out, x6.out⟩), rfl⟩
                · have e6 : ((a.l.length : Int) != (b.l.length : Int)) = true := by rw [bne_iff_ne]; omega
                  have x6 := Lib.hid h6
                  clear h6
                  go_wp2
                  go_meet
                  exact ⟨congrArg Value.bool (by rw [Hd1.out, eq_comm, decide_eq_true_iff]; rintro ⟨h0, h1, h2, h3, h4, h5, h6⟩; exact x6.out h6), rfl⟩
              · have e5 : (a.time != b.time) = true := by rw [bne_iff_ne]; exact h5
                have x5 := Lib.hid h5
                clear h5
                go_wp2
                go_meet
                exact ⟨congrArg Value.bool (by rw [Hd1.out, eq_comm, decide_eq_true_iff]; rintro ⟨h0, h1, h2, h3, h4, h5, h6⟩; exact x5.out h5), rfl⟩
            · have e4 : (a.kind != b.kind) = true := by rw [bne_iff_ne]; exact h4
              have x4 := Lib.hid h4
              clear h4
              go_wp2
              go_meet
              exact ⟨congrArg Value.bool (by rw [Hd1.out, eq_comm, decide_eq_true_iff]; rintro ⟨h0, h1, h2, h3, h4, h5, h6⟩; exact x4.out h4), rfl⟩
          · have e3 : (a.seq != b.seq) = true := by rw [bne_iff_ne]; exact h3
            have x3 := Lib.hid h3
            clear h3
            go_wp2
            go_meet
            exact ⟨congrArg Value.bool (by rw [Hd1.out, eq_comm, decide_eq_true_iff]; rintro ⟨h0, h1, h2, h3, h4, h5, h6⟩; exact x3.out h3), rfl⟩
        · have e2 : (a.epoch != b.epoch) = true := by rw [bne_iff_ne]; exact h2
          have x2 := Lib.hid h2
          clear h2
          go_wp2
          go_meet
          exact ⟨congrArg Value.bool (by rw [Hd1.out, eq_comm, decide_eq_true_iff]; rintro ⟨h0, h1, h2, h3, h4, h5, h6⟩; exact x2.out h2), rfl⟩
      · have e1 : (a.pid != b.pid) = true := by rw [bne_iff_ne]; exact h1
        have x1 := Lib.hid h1
        clear h1
        go_wp2
        go_meet
        exact ⟨congrArg Value.bool (by rw [Hd1.out, eq_comm, decide_eq_true_iff]; rintro ⟨h0, h1, h2, h3, h4, h5, h6⟩; exact x1.out h1), rfl⟩
    · have e0 : (a.base != b.base) = true := by rw [bne_iff_ne]; exact h0
      have x0 := Lib.hid h0
      clear h0
      go_wp2
      go_meet
      exact ⟨congrArg Value.bool (by rw [Hd1.out, eq_comm, decide_eq_true_iff]; rintro ⟨h0, h1, h2, h3, h4, h5, h6⟩; exact x0.out h0), rfl⟩
  case rest =>
    obtain ⟨rfl, rfl⟩ := hcut
    cases hdv : d1 with
    | true =>
      have Hd2 := Lib.hid (of_decide_eq_true (Hd1.out.symm.trans hdv))
      clear hdv
      go_wp2
      go_ret
      refine ⟨ret_bool ?_, hE1⟩
      rw [Hsm.out, eq_comm, decide_eq_false_iff_not]
      rintro ⟨h1, h2, h3, h4, h5, h6, h7⟩
      exact Hd2.out ⟨h1, h2, h3, h4, h5, h6, by rw [h7]⟩
    | false =>
      have Hd2 := Lib.hid (Decidable.of_not_not (of_decide_eq_false (Hd1.out.symm.trans hdv)))
      have hlen := Hd2.out.2.2.2.2.2.2
      have hlen2 : (a.l.length : Int) = (b.l.length : Int) := by omega
      have Hlen := Lib.hid hlen
      clear hdv hlen
      go_wp2_with fail
      clear a0 a1 a2 a3 a4 a5 a6 b0 b1 b2 b3 b4 b5 b6
      go_loopw [59] (fun i wr => ∃ k : Nat, k ≤ a.l.length ∧ i = .int .i64 k ∧ Hid (a.l.take k = b.l.take k) ∧ Ext w1 wr) (fun i _ => a.l.length - (intOf i).toNat)
      case atStart => exact ⟨0, Nat.zero_le _, rfl, Lib.hid rfl, Ext.refl _⟩
      case round =>
        obtain ⟨k, hk, rfl, Ht, hD⟩ := hrel
        have hEr := Ext.trans _ _ _ hE1 hD
        by_cases hlt : k < a.l.length
        · have hltb : k < b.l.length := by have := Hlen.out; omega
          obtain ⟨ad, rfl, hca, hoa⟩ := rec_at (Hra.out wr hEr) k hlt
          have Hst : Hid (a.l[k] = b.l[k] → a.l.take (k + 1) = b.l.take (k + 1)) := Lib.hid fun h => by rw [List.take_succ_eq_append_getElem hlt, List.take_succ_eq_append_getElem hltb, Ht.out, h]
          have Hne : Hid (a.l[k] ≠ b.l[k] → a.l ≠ b.l) := Lib.hid fun h e => h (by simp only [e])
          have hmeas := Lib.hid (@meas_up k a.l.length hlt)
          obtain ⟨ra, hra⟩ : ∃ r, r = a.l[k] := ⟨_, rfl⟩
          rw [← hra] at Hst Hne hca
          obtain ⟨ka, va, ga, ta⟩ := ra
          obtain ⟨p0, p1, p2, p3⟩ := hca
          simp only at p0 p1 p2 p3
          have hEa := Ext.alloc wr (.cells #[.string ka, .string va, .bool ga, .int .i64 ta] 54)
          have hD2 := Ext.trans _ _ _ hD hEa
          have a6 := (cell_of (Hpa.out wr hD) 6).trans rfl
          clear hoa hra
          go_upto_region 6 with fail
          obtain ⟨bd, hbd, hcb, hob⟩ := rec_at (Hrb.out _ (Ext.trans _ _ _ hE1 hD2)) k hltb
          subst hbd
          obtain ⟨rb, hrb⟩ : ∃ r, r = b.l[k] := ⟨_, rfl⟩
          rw [← hrb] at Hst Hne hcb
          obtain ⟨kb, vb, gb, tb⟩ := rb
          obtain ⟨q0, q1, q2, q3⟩ := hcb
          simp only at q0 q1 q2 q3
          have b6 := (cell_of (Hpb.out _ hD2) 6).trans rfl
          have hne := fun W => neq_rec W ka va ga ta kb vb gb tb
          obtain ⟨d, hd⟩ : ∃ d, d = decide ((ka, va, ga, ta) = (kb, vb, gb, tb)) := ⟨_, rfl⟩
          rw [← hd] at hne
          have Hd := Lib.hid hd
          clear hob hd hrb p0 p1 p2 p3 a6
          have hr0 := (cell_of (one_new wr (.cells #[.string ka, .string va, .bool ga, .int .i64 ta] 54)).1 0).trans rfl
          have hr1 := (cell_of (one_new wr (.cells #[.string ka, .string va, .bool ga, .int .i64 ta] 54)).1 1).trans rfl
          have hr2 := (cell_of (one_new wr (.cells #[.string ka, .string va, .bool ga, .int .i64 ta] 54)).1 2).trans rfl
          have hr3 := (cell_of (one_new wr (.cells #[.string ka, .string va, .bool ga, .int .i64 ta] 54)).1 3).trans rfl
          generalize wr.alloc _ = w2 at *
          cases d with
          | true =>
            go_quiet (fail)
            go_wp2
            exact ⟨⟨k + 1, hlt, by rw [Int.natCast_succ], Lib.hid (Hst.out (of_decide_eq_true Hd.out.symm)), Ext.trans _ _ _ hD2 ((Drawn.refl _).step _).below⟩, hmeas.out⟩
          | false =>
            go_quiet (fail)
            go_wp2
            go_ret
            refine ⟨ret_bool ?_, Ext.trans _ _ _ hE1 (Ext.trans _ _ _ hD2 ((Drawn.refl _).step _).below)⟩
            rw [Hsm.out, eq_comm, decide_eq_false_iff_not]
            rintro ⟨_, _, _, _, _, _, h⟩
            exact Hne.out (of_decide_eq_false Hd.out.symm) h
        · have hkl : k = a.l.length := by omega
          have hll : a.l = b.l := by
            have h1 := Ht.out
            have h2 := Hlen.out
            rw [List.take_of_length_le (by omega), List.take_of_length_le (by omega)] at h1
            exact h1
          have Hll := Lib.hid hll
          have hge : ¬ (k : Int) < (b.l.length : Int) := by have := Hlen.out; omega
          clear hll hkl hlt Ht
          go_wp2
          go_ret
          refine ⟨ret_bool ?_, hEr⟩
          have h2 := Hd2.out
          rw [Hsm.out, eq_comm, decide_eq_true_iff]
          exact ⟨h2.1, h2.2.1, h2.2.2.1, h2.2.2.2.1, h2.2.2.2.2.1, h2.2.2.2.2.2.1, Hll.out⟩
end Go.Proofs.Ytaomhedjamnloaa
