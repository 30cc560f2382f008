/- Contracts of rec: Mark, Next, Size, Same; the document's Mark, out, Span, Same. -/
import Derived.Test.YtaomhedjamnloaaRecEq
import Derived.BigQuiet
import Derived.Deep.QuietTactic
set_option linter.unusedVariables false
set_option linter.unusedSimpArgs false
namespace Go.Proofs.Ytaomhedjamnloaa
open Go Go.RowKit

set_option maxRecDepth 8000 in
set_option maxHeartbeats 800000 in
theorem Rmark_calls (w : World) (b : BtM) (A : Option Addr) (c : Nat) :
    Calls Try.prog 53 #[.agg (btC b A c)] w fun e w' => e = .returned (.bool (markB b)) ∧ Ext w w' := by
  unfold btC
  go_enter Try.func53, Try.ntmps53
  go_wp2
  all_goals go_ret
  all_goals exact ⟨ret_bool (by simp_all [markB]), Ext.alloc _ _⟩
set_option maxRecDepth 8000 in
set_option maxHeartbeats 800000 in
theorem Rout_calls (n lo hi : Int) (w : World) :
    Calls Try.prog 72 #[.int .i64 n, .int .i64 lo, .int .i64 hi] w fun e w' => e = .returned (.bool (decide (¬ (lo ≤ n ∧ n ≤ hi)))) ∧ w = w' := by
  generalize hv : decide (¬ (lo ≤ n ∧ n ≤ hi)) = v
  go_enter Try.func72, Try.ntmps72
  go_wp2
  all_goals go_ret
  all_goals exact ⟨ret_bool (by rw [← hv, Bool.eq_iff_iff]; simp <;> omega), rfl⟩
/-- Is all the same? -/
def sameB (a b : BtM) : Bool := decide (a.base = b.base ∧ a.pid = b.pid ∧ a.epoch = b.epoch ∧ a.seq = b.seq ∧ a.kind = b.kind ∧ a.time = b.time ∧ a.l = b.l)
theorem sameB_iff (a b : BtM) : sameB a b = true ↔ a = b := by
  unfold sameB
  rw [decide_eq_true_iff]
  constructor
  · rintro ⟨h1, h2, h3, h4, h5, h6, h7⟩
    cases a; cases b
    simp only at h1 h2 h3 h4 h5 h6 h7
    rw [h1, h2, h3, h4, h5, h6, h7]
  · rintro rfl
    exact ⟨rfl, rfl, rfl, rfl, rfl, rfl, rfl⟩
set_option maxRecDepth 8000 in
set_option maxHeartbeats 1600000 in
theorem Rsame_calls (w : World) (B : Nat) (hB : B ≤ w.heap.size) (a b : BtM) (A A' : Option Addr) (c c' : Nat) (ha : BtAt w B a A c) (hb : BtAt w B b A' c') :
    Calls Try.prog 20 #[.agg (btC a A c), .agg (btC b A' c')] w fun e w' => e = .returned (.bool (sameB a b)) ∧ Ext w w' := by
  have Hra := Lib.hid (fun W (hE : Ext w W) => ha.row.belowF (fun _ hk => Nat.lt_of_lt_of_le hk hB) hE)
  have Hrb := Lib.hid (fun W (hE : Ext w W) => hb.row.belowF (fun _ hk => Nat.lt_of_lt_of_le hk hB) hE)
  have hla := ha.lc
  have hlb := hb.lc
  have hla63 : a.l.length ≤ 9223372036854775807 := by unfold maxLen at hla; omega
  have hlb63 : b.l.length ≤ 9223372036854775807 := by unfold maxLen at hlb; omega
  clear ha hb hla hlb
  obtain ⟨h1, h2, h3, h4⟩ := two_new w (.cells (btC a A c) 24) (.cells (btC b A' c') 24)
  have Hp := Lib.hid (And.intro h1 (And.intro h2 (And.intro h3 h4)))
  clear h1 h2 h3 h4
  have Hsm : Hid (sameB a b = decide (a.base = b.base ∧ a.pid = b.pid ∧ a.epoch = b.epoch ∧ a.seq = b.seq ∧ a.kind = b.kind ∧ a.time = b.time ∧ a.l = b.l)) := Lib.hid rfl
  generalize sameB a b = sm at *
  unfold btC at *
  go_enter Try.func20, Try.ntmps20
  go_upto_region 1 with fail
  generalize (w.alloc _).alloc _ = w1 at *
  have hE1 := Hp.out.2.2.1
  have hs1 := Hp.out.2.2.2
  have Hpa := Lib.hid (fun W (hE : Ext w1 W) => (hE.block _ (by omega)).trans Hp.out.1)
  have Hpb := Lib.hid (fun W (hE : Ext w1 W) => (hE.block _ (by omega)).trans Hp.out.2.1)
  have a0 := (cell_of (Hpa.out w1 (Ext.refl _)) 0).trans rfl
  have a1 := (cell_of (Hpa.out w1 (Ext.refl _)) 1).trans rfl
  have a2 := (cell_of (Hpa.out w1 (Ext.refl _)) 2).trans rfl
  have a3 := (cell_of (Hpa.out w1 (Ext.refl _)) 3).trans rfl
  have a4 := (cell_of (Hpa.out w1 (Ext.refl _)) 4).trans rfl
  have a5 := (cell_of (Hpa.out w1 (Ext.refl _)) 5).trans rfl
  have a6 := (cell_of (Hpa.out w1 (Ext.refl _)) 6).trans rfl
  have b0 := (cell_of (Hpb.out w1 (Ext.refl _)) 0).trans rfl
  have b1 := (cell_of (Hpb.out w1 (Ext.refl _)) 1).trans rfl
  have b2 := (cell_of (Hpb.out w1 (Ext.refl _)) 2).trans rfl
  have b3 := (cell_of (Hpb.out w1 (Ext.refl _)) 3).trans rfl
  have b4 := (cell_of (Hpb.out w1 (Ext.refl _)) 4).trans rfl
  have b5 := (cell_of (Hpb.out w1 (Ext.refl _)) 5).trans rfl
  have b6 := (cell_of (Hpb.out w1 (Ext.refl _)) 6).trans rfl
  by_cases hlen : a.l.length = b.l.length
  · have Hlen := Lib.hid hlen
    have hlen2 : (a.l.length : Int) = (b.l.length : Int) := by omega
    clear hlen
    go_wp2_with fail
    go_loopw [16] (fun i wr => ∃ k : Nat, k ≤ a.l.length ∧ i = .int .i64 k ∧ Hid (a.l.take k = b.l.take k) ∧ Drawn w1 wr) (fun i _ => a.l.length - (intOf i).toNat)
    case atStart => exact ⟨0, Nat.zero_le _, rfl, Lib.hid rfl, Drawn.refl _⟩
    case round =>
      obtain ⟨k, hk, rfl, Ht, hD⟩ := hrel
      have hEr := Ext.trans _ _ _ hE1 hD.below
      by_cases hlt : k < a.l.length
      · have hltb : k < b.l.length := by have := Hlen.out; omega
        obtain ⟨ad, rfl, hca, hoa⟩ := rec_at (Hra.out wr hEr) k hlt
        obtain ⟨bd, rfl, hcb, hob⟩ := rec_at (Hrb.out wr hEr) k hltb
        have Hst : Hid (a.l[k] = b.l[k] → a.l.take (k + 1) = b.l.take (k + 1)) := Lib.hid fun h => by rw [List.take_succ_eq_append_getElem hlt, List.take_succ_eq_append_getElem hltb, Ht.out, h]
        have Hne : Hid (a.l[k] ≠ b.l[k] → a.l ≠ b.l) := Lib.hid fun h e => h (by simp only [e])
        have hmeas := Lib.hid (@meas_up k a.l.length hlt)
        generalize a.l[k] = ra at *
        generalize b.l[k] = rb at *
        obtain ⟨ka, va, ga, ta⟩ := ra
        obtain ⟨kb, vb, gb, tb⟩ := rb
        obtain ⟨p0, p1, p2, p3⟩ := hca
        obtain ⟨q0, q1, q2, q3⟩ := hcb
        simp only at p0 p1 p2 p3 q0 q1 q2 q3
        have a6 := (cell_of (Hpa.out wr hD.below) 6).trans rfl
        have b6 := (cell_of (Hpb.out wr hD.below) 6).trans rfl
        have hne := fun W => neq_rec W ka va ga ta kb vb gb tb
        obtain ⟨d, hd⟩ : ∃ d, d = decide ((ka, va, ga, ta) = (kb, vb, gb, tb)) := ⟨_, rfl⟩
        rw [← hd] at hne
        have Hd := Lib.hid hd
        clear hoa hob hd
        go_upto_region 6 with fail
        cases d with
        | true =>
          go_quiet (fail)
          go_wp2
          exact ⟨⟨k + 1, hlt, by rw [Int.natCast_succ], Lib.hid (Hst.out (of_decide_eq_true Hd.out.symm)), hD.step _⟩, hmeas.out⟩
        | false =>
          go_quiet (fail)
          go_wp2
          go_ret
          refine ⟨ret_bool ?_, Ext.trans _ _ _ hE1 (hD.step _).below⟩
          rw [Hsm.out, eq_comm, decide_eq_false_iff_not]
          rintro ⟨_, _, _, _, _, _, h⟩
          exact Hne.out (of_decide_eq_false Hd.out.symm) h
      · have hkl : k = a.l.length := by omega
        have hll : a.l = b.l := by
          have h1 := Ht.out
          have h2 := Hlen.out
          rw [List.take_of_length_le (by omega), List.take_of_length_le (by omega)] at h1
          exact h1
        have Hll := Lib.hid hll
        have a0 := (cell_of (Hpa.out wr hD.below) 0).trans rfl
        have a1 := (cell_of (Hpa.out wr hD.below) 1).trans rfl
        have a2 := (cell_of (Hpa.out wr hD.below) 2).trans rfl
        have a3 := (cell_of (Hpa.out wr hD.below) 3).trans rfl
        have a4 := (cell_of (Hpa.out wr hD.below) 4).trans rfl
        have a5 := (cell_of (Hpa.out wr hD.below) 5).trans rfl
        have b0 := (cell_of (Hpb.out wr hD.below) 0).trans rfl
        have b1 := (cell_of (Hpb.out wr hD.below) 1).trans rfl
        have b2 := (cell_of (Hpb.out wr hD.below) 2).trans rfl
        have b3 := (cell_of (Hpb.out wr hD.below) 3).trans rfl
        have b4 := (cell_of (Hpb.out wr hD.below) 4).trans rfl
        have b5 := (cell_of (Hpb.out wr hD.below) 5).trans rfl
        have Hk := Lib.hid hkl
        have hge : ¬ (k : Int) < (b.l.length : Int) := by have := Hlen.out; omega
        clear hll hkl hlt Ht
        have hcs : (a.base = b.base ∨ a.base ≠ b.base) := Decidable.em _
        go_wp2
        all_goals go_ret
        all_goals refine ⟨ret_bool ?_, hEr⟩
        all_goals
          rw [Hsm.out, Bool.eq_iff_iff, decide_eq_true_iff]
          have hll := Hll.out
          simp_all
  · have Hlen := Lib.hid hlen
    have hl1 : ((a.l.length : Int) == (b.l.length : Int)) = false := by rw [beq_eq_false_iff_ne]; omega
    have hl2 : decide (a.l.length = b.l.length) = false := decide_eq_false hlen
    clear hlen
    go_wp2
    go_ret
    refine ⟨ret_bool ?_, hE1⟩
    rw [Hsm.out, eq_comm, decide_eq_false_iff_not]
    rintro ⟨_, _, _, _, _, _, h⟩
    exact Hlen.out (by rw [h])
end Go.Proofs.Ytaomhedjamnloaa
