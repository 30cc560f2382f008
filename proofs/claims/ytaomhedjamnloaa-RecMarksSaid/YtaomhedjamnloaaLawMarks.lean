/- RecMarks: the walk of the law. -/
import Derived.Test.YtaomhedjamnloaaRecK
set_option linter.unusedVariables false
set_option linter.unusedSimpArgs false
namespace Go.Proofs.Ytaomhedjamnloaa
open Go Go.RowKit

theorem mark_valid (pid epoch time k : Int) (hk : k = 2 ∨ k = 3) : validE ⟨0, pid, epoch, 0, k, time, []⟩ = 0 ↔ (1 ≤ pid ∧ pid ≤ 1048576 ∧ 0 ≤ epoch ∧ epoch ≤ 32767 ∧ 0 ≤ time ∧ time ≤ 1099511627776) := by
  have hmk : markB ⟨0, pid, epoch, 0, k, time, []⟩ = true := by
    unfold markB
    rcases hk with rfl | rfl <;> rfl
  rw [validE_iff]
  constructor
  · intro h
    obtain ⟨h1, h2, h3, h4, h5, h6⟩ := h.nums
    simp only at h1 h2 h3 h4 h5 h6
    have hp : pid ≠ 0 := fun h0 => by
      have := h.fits
      unfold fitsB at this
      rw [if_pos ⟨h0, .inl (by simp only; omega)⟩] at this
      cases this
    omega
  · intro h
    refine ⟨⟨by simp only; omega, by simp only; omega, by simp only; omega, by simp only; omega, by simp only; omega, by simp only; omega⟩, ?_, by simp, rfl, ?_⟩
    · unfold fitsB
      rw [if_neg (by simp only; omega), if_pos hmk]
      rfl
    · unfold overB spanN
      rw [if_pos hmk, hmk]
      rw [decide_eq_false_iff_not]
      rintro (h | ⟨_, h, _⟩)
      · simp only at h; omega
      · cases h
set_option maxRecDepth 8000 in
set_option maxHeartbeats 1600000 in
theorem RecMarks_calls (pid epoch : Int) (commit : Bool) (time : Int) (w : World) (hp : -9223372036854775808 ≤ pid ∧ pid ≤ 9223372036854775807) (he : -9223372036854775808 ≤ epoch ∧ epoch ≤ 9223372036854775807) (ht : -9223372036854775808 ≤ time ∧ time ≤ 9223372036854775807) :
    Calls Try.prog 3 #[.int .i64 pid, .int .i64 epoch, .bool commit, .int .i64 time] w fun e w' => e = .returned (.bool true) ∧ Below w.heap.size w w' := by
  obtain ⟨k, hkd⟩ : ∃ k : Int, k = if commit then 2 else 3 := ⟨_, rfl⟩
  have hk : k = 2 ∨ k = 3 := by rw [hkd]; split; exact .inl rfl; exact .inr rfl
  have Hv := Lib.hid (mark_valid pid epoch time k hk)
  have hok : BtOk ⟨0, pid, epoch, 0, k, time, []⟩ := ⟨⟨by simp only; omega, by simp only; omega⟩, hp, he, ⟨by simp only; omega, by simp only; omega⟩, ⟨by simp only; omega, by simp only; omega⟩, ht⟩
  have hmk : markB ⟨0, pid, epoch, 0, k, time, []⟩ = true := by
    unfold markB
    rcases hk with h | h <;> (simp only [h]; rfl)
  have Hmc := Lib.hid (Mark_calls w pid epoch commit time)
  rw [← hkd] at Hmc
  have HVa := Lib.hid (fun W => Valid_calls W W.heap.size (Nat.le_refl _) ⟨0, pid, epoch, 0, k, time, []⟩ none 0 (btAt_nil W hok rfl))
  have HSp := Lib.hid (fun W => Span_calls W ⟨0, pid, epoch, 0, k, time, []⟩ none 0)
  rw [show spanN ⟨0, pid, epoch, 0, k, time, []⟩ = 1 from if_pos hmk] at HSp
  obtain ⟨m, hm⟩ : ∃ m, m = decide (1 ≤ pid ∧ pid ≤ 1048576 ∧ 0 ≤ epoch ∧ epoch ≤ 32767 ∧ 0 ≤ time ∧ time ≤ 1099511627776) := ⟨_, rfl⟩
  have Hm := Lib.hid hm
  have hk2 : (k == 2) = commit := by rw [hkd]; cases commit <;> rfl
  have hk3 : (k == 3) = !commit := by rw [hkd]; cases commit <;> rfl
  have Hk2 := Lib.hid hk2
  have Hk3 := Lib.hid hk3
  generalize validE ⟨0, pid, epoch, 0, k, time, []⟩ = vE at *
  clear hm hkd hk hok hmk hk2 hk3
  unfold btC at *
  simp only [List.length_nil] at *
  go_enter Try.func3, Try.ntmps3
  go_wp2_with fail
  refine Hmc.out.mono ?_
  rintro e w1 ⟨rfl, hE1⟩
  obtain ⟨j1, j3, j4⟩ := one_new w1 (.cells #[.int .i64 0, .int .i64 pid, .int .i64 epoch, .int .i64 0, .int .i64 k, .int .i64 time, .slice none 0 0] 24)
  have hE2 := Ext.trans _ _ _ hE1 j3
  have Hj := Lib.hid (fun W (hE : Ext (w1.alloc (.cells #[.int .i64 0, .int .i64 pid, .int .i64 epoch, .int .i64 0, .int .i64 k, .int .i64 time, .slice none 0 0] 24)) W) => (hE.block w1.heap.size (by omega)).trans j1)
  have hk2 := Hk2.out
  have hk3 := Hk3.out
  clear j1 j3
  go_upto_region 2 with fail
  generalize w1.alloc _ = w2 at *
  have hj := Hj.out w2 (Ext.refl _)
  have k0 := (cell_of hj 0).trans rfl
  have k1 := (cell_of hj 1).trans rfl
  have k2 := (cell_of hj 2).trans rfl
  have k3 := (cell_of hj 3).trans rfl
  have k4 := (cell_of hj 4).trans rfl
  have k5 := (cell_of hj 5).trans rfl
  have k6 := (cell_of hj 6).trans rfl
  clear hj
  go_upto_region 4 with fail
  go_cut [10] (fun v wx => v = .bool m ∧ w2 = wx)
  case first =>
    go_wp2
    all_goals go_meet
    all_goals refine ⟨congrArg Value.bool ?_, rfl⟩
    all_goals
      rw [Hm.out, Bool.eq_iff_iff, decide_eq_true_iff]
      first
      | (simp; done)
      | (simp; omega)
      | omega
  case rest =>
    obtain ⟨rfl, rfl⟩ := hcut
    go_wp2_with fail
    refine (HVa.out _).mono ?_
    rintro e w3 ⟨rfl, hE3⟩
    have hj := Hj.out w3 hE3
    have p0 := (cell_of hj 0).trans rfl
    have p1 := (cell_of hj 1).trans rfl
    have p2 := (cell_of hj 2).trans rfl
    have p3 := (cell_of hj 3).trans rfl
    have p4 := (cell_of hj 4).trans rfl
    have p5 := (cell_of hj 5).trans rfl
    have p6 := (cell_of hj 6).trans rfl
    clear hj k0 k1 k2 k3 k4 k5 k6
    have hEm : ((vE == 0) == m) = true := by
      rw [beq_iff_eq, Hm.out, Bool.eq_iff_iff, beq_iff_eq, decide_eq_true_iff]
      exact Hv.out
    obtain ⟨ve, hve⟩ : ∃ ve, (vE == 0) = ve := ⟨_, rfl⟩
    rw [hve] at hEm
    have hve2 : ve = m := by simpa using hEm
    subst hve2
    go_wp2_with fail
    refine (HSp.out _).mono ?_
    rintro e w4 ⟨rfl, hE4⟩
    go_wp2_with fail
    refine (awake3_calls _).mono ?_
    rintro e w5 ⟨rfl, hE5⟩
    go_wp2
    go_ret
    exact ⟨rfl, Ext.trans _ _ _ hE2 (Ext.trans _ _ _ hE3 (Ext.trans _ _ _ hE4 hE5))⟩
end Go.Proofs.Ytaomhedjamnloaa
