/- Contract: rec's part. -/
import Derived.Test.YtaomhedjamnloaaRecMr
import Derived.Test.YtaomhedjamnloaaRecJ
set_option linter.unusedVariables false
set_option linter.unusedSimpArgs false
namespace Go.Proofs.Ytaomhedjamnloaa
open Go Go.RowKit

/-- A part, by the program's own sums. -/
def partB (b : BtM) (f t : Nat) : BtM := ⟨b.base + (f : Int), b.pid, b.epoch, if 0 < b.pid then b.seq + (f : Int) else b.seq, b.kind, b.time, (b.l.take t).drop f⟩
theorem part_piece {b : BtM} (hv : validE b = 0) (f t : Nat) : partB b f t = pieceB b f t := by
  have hf := (validE_iff b).1 hv
  have h0 := hf.seq0
  have h1 := hf.nums.pid
  unfold partB pieceB
  by_cases hp : 0 < b.pid
  · rw [if_pos hp, if_pos hp]
  · rw [if_neg hp, if_neg hp, h0 (.inr (by omega))]
set_option maxRecDepth 8000 in
set_option maxHeartbeats 4000000 in
theorem part_calls (w : World) (B : Nat) (hB : B ≤ w.heap.size) (b : BtM) (A : Option Addr) (c : Nat) (h : BtAt w B b A c) (f t : Nat) (hft : f ≤ t) (ht : t ≤ b.l.length) (hl : b.l.length ≤ 1000) (h1 : 0 ≤ b.base ∧ b.base ≤ 1099511627776) (h2 : 0 ≤ b.seq ∧ b.seq ≤ 2147483647) :
    Calls Try.prog 75 #[.agg (btC b A c), .int .i64 (f : Int), .int .i64 (t : Int)] w (BtOwn w (partB b f t)) := by
  obtain ⟨p1, p2, hE2, hs2⟩ := two_new w (.cells (btC b A c) 24) (.cells (btC btNone none 0) 24)
  have hrow := h.row.mono (G := fun k => k < w.heap.size) fun _ hk => Nat.lt_of_lt_of_le hk hB
  have hlc := h.lc
  unfold btC btNone at p1 p2 hE2 hs2
  unfold btC
  simp only [List.length_nil] at p1 p2 hE2 hs2
  have Hp := Lib.hid (And.intro p1 (And.intro p2 (And.intro hE2 hs2)))
  have hcut := hrow.cut c f t 4 rfl hft ht hlc.1
  have hlen : ((b.l.take t).drop f).length = t - f := by rw [List.length_drop, List.length_take]; omega
  clear p1 p2 hE2 hs2 h hrow
  obtain ⟨P, hP⟩ : ∃ P, P = partB b f t := ⟨_, rfl⟩
  rw [← hP]
  have hsl := fun W => slice_mid (P := Try.prog) 22 54 4 Try.underlying22 (by kernel_rfl) A b.l.length c (f : Int) (t : Int) (by omega) (by omega) (by omega) W .i64 .i64
  simp only [Int.toNat_natCast] at hsl
  rw [← hlen] at hsl
  unfold partB at hP
  obtain ⟨L, hL⟩ : ∃ L, L = (b.l.take t).drop f := ⟨_, rfl⟩
  rw [← hL] at hsl hcut hP hlen
  have HL := Lib.hid (show L.length ≤ 1000 from by omega)
  have hLc : L.length ≤ c - f := by omega
  have HP := Lib.hid hP
  clear hP hL hlen
  have hLl := HL.out
  have hcf : c - f ≤ maxLen := by omega
  generalize cutA A c f 4 = Ac at *
  go_enter Try.func75, Try.ntmps75
  go_upto_region 1 with fail
  generalize (w.alloc _).alloc _ = w2 at *
  obtain ⟨p1, p2, hE2, hs2⟩ := Hp.out
  have k0 := (cell_of p1 0).trans rfl
  have k1 := (cell_of p1 1).trans rfl
  have k2 := (cell_of p1 2).trans rfl
  have k3 := (cell_of p1 3).trans rfl
  have k4 := (cell_of p1 4).trans rfl
  have k5 := (cell_of p1 5).trans rfl
  have k6 := (cell_of p1 6).trans rfl
  have Hn := Lib.hid (show ∀ o, (w2.alloc o).heap[w.heap.size + 2]? = some o from fun o => hs2 ▸ (one_new w2 o).1)
  go_upto_region 2 with (refine gate_op (p := .store 24 (.tmp 7) (.tmp 8)) rfl ?_; go_must (refine put_row rfl 24 (.tmp 7) (.tmp 8) rfl (w.heap.size + 2) (btC b A c) rfl rfl _ _ (Hn.out _) size_bt rfl (btC_one _ _ _) ?_; intro w3 hp3; have H3 := Lib.hid (And.intro (show Ext w2 w3 from hp3.below (one_new _ _).2.1 (by omega)) (And.intro hp3.obj (hp3.size.trans ((one_new _ _).2.2.trans (by rw [hs2]))))); clear hp3))
  obtain ⟨hE23, p3, hs3⟩ := H3.out
  have p13 := (hE23.block w.heap.size (by omega)).trans p1
  have p23 := (hE23.block (w.heap.size + 1) (by omega)).trans p2
  have hE3 := Ext.trans _ _ _ hE2 hE23
  clear k0 k1 k2 k3 k4 k5 k6
  clear H3 Hp p1 p2 hE2 hE23 hs2
  have k6 : w3.cell? ⟨w.heap.size, 6, none⟩ = some (.slice A b.l.length c) := (cell_of p13 6).trans rfl
  have hs3' : w.heap.size + 3 ≤ w3.heap.size := by omega
  have Hs3 := Lib.hid hs3
  clear hs3
  have hsl3 : Sl recK w3 (fun k => k < w.heap.size) (.slice Ac L.length (c - f)) L := ⟨Ac, c - f, rfl, hLc, hcf, hcut.belowF (fun _ h => h) hE3⟩
  go_upto_region 3 with (first
    | (at_builtin; go_must (refine app_flat recK flat_rec (w.heap.size + 3) rfl (.const (.slice none 0 0)) (.tmp 13) 22 54 48 rfl Try.underlying22 info_rec (.slice none 0 0) (.slice Ac L.length (c - f)) [] L (fun _ => False) _ rfl rfl (Own.nil _ _ _ _ _) hsl3 (by simp only [List.length_nil]; omega) (by simp only [maxLen, List.length_nil]; omega) (by omega) ?_; intro v4 w4 ho4 hg4 ha4; rw [List.nil_append] at ho4; obtain ⟨A4, c4, e4, _, _⟩ := ho4.slice; subst e4; have hE4 : Below w3.heap.size w3 w4 := (Below.refl _ _).grown hg4 (Nat.le_refl _) (fun k e => by cases e); have hb4 := (hE4.block (w.heap.size + 2) (by omega)).trans p3; have hc4 := (hE4.block (w.heap.size + 1) (by omega)).trans p23; have H4 := Lib.hid (And.intro hE4 (And.intro ho4 hc4)); clear hE4 ho4 hc4 hg4 ha4))
    | (refine gate_op (p := .store 22 (.tmp 15) (.tmp 14)) rfl ?_; go_must (refine put_cell rfl 22 (.tmp 15) (.tmp 14) rfl (w.heap.size + 2) 6 (.slice A4 L.length c4) rfl rfl rfl _ _ hb4 size_sl (show 6 < 7 by decide) ?_; intro w5 hp5)))
  obtain ⟨hE34, ho4, hc4⟩ := H4.out
  have hne4 : ∀ k, (Value.slice A4 L.length c4).ownBlock = some k → k ≠ w.heap.size + 2 := fun k hk => by have := (ho4.at hk).1; omega
  have ho5 := hp5.own ho4 hne4 (fun _ h => h.elim)
  have hc5 := (hp5.block (w.heap.size + 1) (by omega)).trans hc4
  have hE5 := hp5.below (Ext.trans _ _ _ hE3 hE34) (show w.heap.size ≤ w.heap.size + 2 by omega)
  have hj5 : w5.heap[w.heap.size + 2]? = some (.cells #[.int .i64 b.base, .int .i64 b.pid, .int .i64 b.epoch, .int .i64 b.seq, .int .i64 b.kind, .int .i64 b.time, .slice A4 L.length c4] 24 (0, 0)) := hp5.obj
  clear hE34 ho4 hc4 hp5 H4 hE3 hsl hsl3 k6 p13 p23 p3 hb4 Hn hcut
  have k0 := (cell_of hj5 0).trans rfl
  have k1 := (cell_of hj5 1).trans rfl
  have k2 := (cell_of hj5 2).trans rfl
  have k3 := (cell_of hj5 3).trans rfl
  have k4 := (cell_of hj5 4).trans rfl
  have k5 := (cell_of hj5 5).trans rfl
  have k6 := (cell_of hj5 6).trans rfl
  go_upto_region 4 with (refine gate_op (p := .store 2 (.tmp 20) (.tmp 19)) rfl ?_; go_must (refine put_cell rfl 2 (.tmp 20) (.tmp 19) rfl (w.heap.size + 2) 0 (.int .i64 (b.base + (f : Int))) rfl rfl rfl _ _ hj5 size_i64 (show 0 < 7 by decide) ?_; intro w6 hp6))
  have ho6 := hp6.own ho5 (fun k hk => by have := (ho5.at hk).1; omega) (fun _ h => h.elim)
  have hc6 := (hp6.block (w.heap.size + 1) (by omega)).trans hc5
  have hE6 := hp6.below hE5 (show w.heap.size ≤ w.heap.size + 2 by omega)
  have hj6 : w6.heap[w.heap.size + 2]? = some (.cells #[.int .i64 (b.base + (f : Int)), .int .i64 b.pid, .int .i64 b.epoch, .int .i64 b.seq, .int .i64 b.kind, .int .i64 b.time, .slice A4 L.length c4] 24 (0, 0)) := hp6.obj
  clear k0 k1 k2 k3 k4 k5 k6
  clear ho5 hc5 hE5 hj5 hp6
  have k0 := (cell_of hj6 0).trans rfl
  have k1 := (cell_of hj6 1).trans rfl
  have k2 := (cell_of hj6 2).trans rfl
  have k3 := (cell_of hj6 3).trans rfl
  have k4 := (cell_of hj6 4).trans rfl
  have k5 := (cell_of hj6 5).trans rfl
  have k6 := (cell_of hj6 6).trans rfl
  go_upto_if 23 with fail
  go_cut [23] (fun v wx => v = .bool (decide (0 < b.pid)) ∧ wx.heap[w.heap.size + 2]? = some (.cells (btC P A4 c4) 24 (0, 0)) ∧ wx.heap[w.heap.size + 1]? = some (.cells #[.int .i64 0, .int .i64 0, .int .i64 0, .int .i64 0, .int .i64 0, .int .i64 0, .slice none 0 0] 24 (0, 0)) ∧ Own recK 54 wx (w.heap.size + 3) (fun _ => False) (.slice A4 L.length c4) L ∧ Ext w wx)
  case first =>
    by_cases hp : 0 < b.pid
    · have hpd : decide (0 < b.pid) = true := decide_eq_true hp
      have Hq := Lib.hid (show P = ⟨b.base + (f : Int), b.pid, b.epoch, b.seq + (f : Int), b.kind, b.time, L⟩ from by rw [HP.out, if_pos hp])
      go_wp2_with (refine gate_op (p := .store 3 (.tmp 28) (.tmp 27)) rfl ?_; go_must (refine put_cell rfl 3 (.tmp 28) (.tmp 27) rfl (w.heap.size + 2) 3 (.int .i64 (b.seq + (f : Int))) rfl rfl rfl _ _ hj6 size_int (show 3 < 7 by decide) ?_; intro w7 hp7))
      go_meet
      exact ⟨by simp [hp], by rw [Hq.out]; exact hp7.obj, (hp7.block _ (by omega)).trans hc6, hp7.own ho6 (fun k hk => by have := (ho6.at hk).1; omega) (fun _ h => h.elim), hp7.below hE6 (by omega)⟩
    · have hpd : decide (0 < b.pid) = false := decide_eq_false hp
      have Hq := Lib.hid (show P = ⟨b.base + (f : Int), b.pid, b.epoch, b.seq, b.kind, b.time, L⟩ from by rw [HP.out, if_neg hp])
      go_wp2
      go_meet
      exact ⟨by simp [hp], by rw [Hq.out]; exact hj6, hc6, ho6, hE6⟩
  case rest =>
    obtain ⟨rfl, hj, hc', ho, hE⟩ := hcut
    clear k0 k1 k2 k3 k4 k5 k6
    have HPl := Lib.hid (show P.l = L from by rw [HP.out])
    clear HP hj6 hc6 ho6 hE6
    unfold btC at hj
    rw [HPl.out] at hj
    have k0 := (cell_of hj 0).trans rfl
    have k1 := (cell_of hj 1).trans rfl
    have k2 := (cell_of hj 2).trans rfl
    have k3 := (cell_of hj 3).trans rfl
    have k4 := (cell_of hj 4).trans rfl
    have k5 := (cell_of hj 5).trans rfl
    have k6 := (cell_of hj 6).trans rfl
    go_wp2_with (refine gate_op (p := .store 24 (.tmp 6) (.tmp 29)) rfl ?_; go_must (refine put_row rfl 24 (.tmp 6) (.tmp 29) rfl (w.heap.size + 1) #[.int .i64 P.base, .int .i64 P.pid, .int .i64 P.epoch, .int .i64 P.seq, .int .i64 P.kind, .int .i64 P.time, .slice A4 L.length c4] rfl rfl _ _ hc' size_bt rfl (btC_one { P with l := L } A4 c4) ?_; intro wf hpf))
    refine bodyPost_ret (results_cell_row rfl _ _ (w.heap.size + 1) _ _ _ _ rfl hpf.obj Try.underlying24 rfl size_bt) rfl ?_
    have ho9 := (hpf.own ho (fun k hk => by have := (ho.at hk).1; omega) (fun _ h => h.elim)).lower (show w.heap.size ≤ w.heap.size + 3 by omega)
    rw [← HPl.out] at ho9
    rw [← HPl.out]
    exact ⟨A4, c4, rfl, ho9, hpf.below hE (by omega)⟩
end Go.Proofs.Ytaomhedjamnloaa
