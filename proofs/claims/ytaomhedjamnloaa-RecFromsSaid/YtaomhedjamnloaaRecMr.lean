/- Contract: the document's Piece. -/
import Derived.Test.YtaomhedjamnloaaRecMg
import Derived.Test.YtaomhedjamnloaaRegApp
import Derived.Deep.RegionLaw
set_option linter.unusedVariables false
set_option linter.unusedSimpArgs false
namespace Go.Proofs.Ytaomhedjamnloaa
open Go Go.RowKit

def pieceB (b : BtM) (f t : Nat) : BtM := ⟨b.base + (f : Int), b.pid, b.epoch, if 0 < b.pid then b.seq + (f : Int) else 0, b.kind, b.time, (b.l.take t).drop f⟩
def pieceH (b : BtM) (f : Nat) (l : List Rc) : BtM := ⟨b.base + (f : Int), b.pid, b.epoch, if 0 < b.pid then b.seq + (f : Int) else 0, b.kind, b.time, l⟩
theorem piece_snoc {l : List Rc} {f j : Nat} (hf : f ≤ j) (hj : j < l.length) : (l.take (j + 1)).drop f = (l.take j).drop f ++ [l[j]] := by
  rw [List.take_succ_eq_append_getElem hj, List.drop_append_of_le_length (by rw [List.length_take]; omega)]
theorem piece_len {l : List Rc} {f j : Nat} (hj : j ≤ l.length) : ((l.take j).drop f).length = j - f := by
  rw [List.length_drop, List.length_take]
  omega
set_option maxRecDepth 8000 in
set_option maxHeartbeats 4000000 in
theorem Piece_calls (w : World) (B : Nat) (hB : B ≤ w.heap.size) (b : BtM) (A : Option Addr) (c : Nat) (h : BtAt w B b A c) (f t : Nat) (hft : f ≤ t) (ht : t ≤ b.l.length) (hl : b.l.length ≤ 1000) (h1 : 0 ≤ b.base ∧ b.base ≤ 1099511627776) (h2 : 0 ≤ b.seq ∧ b.seq ≤ 2147483647) :
    Calls Try.prog 74 #[.agg (btC b A c), .int .i64 (f : Int), .int .i64 (t : Int)] w (BtOwn w (pieceB b f t)) := by
  obtain ⟨p1, p2, hE2, hs2⟩ := two_new w (.cells (btC b A c) 24) (.cells (btC btNone none 0) 24)
  have Hrow := Lib.hid (fun W (hE : Ext w W) => h.row.belowF (fun _ hk => Nat.lt_of_lt_of_le hk hB) hE)
  have hlc := h.lc
  have Hw := Lib.hid (show pieceB b f t = pieceH b f ((b.l.take t).drop f) from rfl)
  unfold btC btNone at p1 p2 hE2 hs2
  unfold btC
  simp only [List.length_nil] at p1 p2 hE2 hs2
  have Hp := Lib.hid (And.intro p1 (And.intro p2 (And.intro hE2 hs2)))
  clear p1 p2 hE2 hs2 h
  obtain ⟨P, hP⟩ : ∃ P, P = pieceB b f t := ⟨_, rfl⟩
  rw [← hP]
  have HP := Lib.hid (hP.trans Hw.out)
  clear hP Hw
  go_enter Try.func74, Try.ntmps74
  go_upto_region 1 with fail
  generalize (w.alloc _).alloc _ = w2 at *
  obtain ⟨p1, p2, hE2, hs2⟩ := Hp.out
  have k0 := (cell_of p1 0).trans rfl
  have k1 := (cell_of p1 1).trans rfl
  have k2 := (cell_of p1 2).trans rfl
  have k3 := (cell_of p1 3).trans rfl
  have k4 := (cell_of p1 4).trans rfl
  have k5 := (cell_of p1 5).trans rfl
  have k6 := (cell_of p1 6).trans rfl
  have hfb : (f : Int) ≤ 1000 := by omega
  have Hn := Lib.hid (show ∀ o, (w2.alloc o).heap[w.heap.size + 2]? = some o from fun o => hs2 ▸ (one_new w2 o).1)
  go_upto_region 2 with (refine gate_op (p := .store 24 (.tmp 7) (.tmp 21)) rfl ?_; go_must (refine put_row rfl 24 (.tmp 7) (.tmp 21) rfl (w.heap.size + 2) #[.int .i64 (b.base + (f : Int)), .int .i64 b.pid, .int .i64 b.epoch, .int .i64 0, .int .i64 b.kind, .int .i64 b.time, .slice none 0 0] rfl rfl _ _ (Hn.out _) size_bt rfl (btC_one ⟨b.base + (f : Int), b.pid, b.epoch, 0, b.kind, b.time, []⟩ none 0) ?_; intro w3 hp3; have H3 := Lib.hid (And.intro (show Ext w2 w3 from hp3.below (one_new _ _).2.1 (by omega)) (And.intro hp3.obj (hp3.size.trans ((one_new _ _).2.2.trans (by rw [hs2]))))); clear hp3))
  obtain ⟨hE23, p3, hs3⟩ := H3.out
  have p13 := (hE23.block w.heap.size (by omega)).trans p1
  have p23 := (hE23.block (w.heap.size + 1) (by omega)).trans p2
  have hE3 := Ext.trans _ _ _ hE2 hE23
  clear k0 k1 k2 k3 k4 k5 k6
  clear H3 Hp p1 p2 hE2 hE23
  clear hs2
  have k0 := (cell_of p13 0).trans rfl
  have k1 := (cell_of p13 1).trans rfl
  have k2 := (cell_of p13 2).trans rfl
  have k3 := (cell_of p13 3).trans rfl
  have k4 := (cell_of p13 4).trans rfl
  have k5 := (cell_of p13 5).trans rfl
  have k6 := (cell_of p13 6).trans rfl
  go_upto_if 24 with fail
  go_cut [24] (fun v wx => v = .bool (decide (0 < b.pid)) ∧ wx.heap[w.heap.size]? = some (.cells #[.int .i64 b.base, .int .i64 b.pid, .int .i64 b.epoch, .int .i64 b.seq, .int .i64 b.kind, .int .i64 b.time, .slice A b.l.length c] 24 (0, 0)) ∧ wx.heap[w.heap.size + 1]? = some (.cells #[.int .i64 0, .int .i64 0, .int .i64 0, .int .i64 0, .int .i64 0, .int .i64 0, .slice none 0 0] 24 (0, 0)) ∧ wx.heap[w.heap.size + 2]? = some (.cells (btC (pieceH b f []) none 0) 24 (0, 0)) ∧ Ext w wx)
  case first =>
    by_cases hp : 0 < b.pid
    · have hpd : decide (0 < b.pid) = true := decide_eq_true hp
      have Hq := Lib.hid (show (if 0 < b.pid then b.seq + (f : Int) else 0) = b.seq + (f : Int) from if_pos hp)
      have hpp := Lib.hid hp
      go_wp2_with (refine gate_op (p := .store 3 (.tmp 29) (.tmp 28)) rfl ?_; go_must (refine put_cell rfl 3 (.tmp 29) (.tmp 28) rfl (w.heap.size + 2) 3 (.int .i64 (b.seq + (f : Int))) rfl rfl rfl _ _ p3 size_int (show 3 < 7 by decide) ?_; intro w4 hp4))
      go_meet
      exact ⟨by simp [hpp.out], (hp4.block _ (by omega)).trans p13, (hp4.block _ (by omega)).trans p23, by unfold pieceH btC; simp only [Hq.out]; exact hp4.obj, hp4.below hE3 (by omega)⟩
    · have hpd : decide (0 < b.pid) = false := decide_eq_false hp
      have Hq := Lib.hid (show (if 0 < b.pid then b.seq + (f : Int) else 0) = 0 from if_neg hp)
      have hpp := Lib.hid hp
      go_wp2
      go_meet
      exact ⟨by simp [hpp.out], p13, p23, by unfold pieceH btC; simp only [Hq.out]; exact p3, hE3⟩
  case rest =>
    obtain ⟨rfl, p1, p2, p3, hE⟩ := hcut
    clear k0 k1 k2 k3 k4 k5 k6
    clear p13 p23 hE3 hs3
    go_upto_region 5 with fail
    go_loopw [8] (fun i wr => ∃ (j : Nat) (Al : Option Addr) (cl : Nat), f ≤ j ∧ j ≤ t ∧ i = .int .i64 j ∧ Own recK 54 wr (w.heap.size + 3) (fun _ => False) (.slice Al ((b.l.take j).drop f).length cl) ((b.l.take j).drop f) ∧ wr.heap[w.heap.size]? = some (.cells #[.int .i64 b.base, .int .i64 b.pid, .int .i64 b.epoch, .int .i64 b.seq, .int .i64 b.kind, .int .i64 b.time, .slice A b.l.length c] 24 (0, 0)) ∧ wr.heap[w.heap.size + 1]? = some (.cells #[.int .i64 0, .int .i64 0, .int .i64 0, .int .i64 0, .int .i64 0, .int .i64 0, .slice none 0 0] 24 (0, 0)) ∧ wr.heap[w.heap.size + 2]? = some (.cells (btC (pieceH b f ((b.l.take j).drop f)) Al cl) 24 (0, 0)) ∧ Ext w wr) (fun i _ => t - (intOf i).toNat)
    case atStart =>
      have e : (b.l.take f).drop f = [] := List.drop_eq_nil_of_le (List.length_take_le _ _)
      exact ⟨f, none, 0, Nat.le_refl _, hft, rfl, by rw [e]; exact Own.nil _ _ _ _ _, p1, p2, by rw [e]; exact p3, hE⟩
    case round =>
      obtain ⟨j, Al, cl, hj1, hj2, rfl, ho, p1, p2, p3, hE⟩ := hrel
      by_cases hlt : j < t
      · have hlti : (j : Int) < (t : Int) := by omega
        have hjl : j < b.l.length := by omega
        obtain ⟨ad, rfl, hcc, hro⟩ := rec_at (Hrow.out wr hE) j hjl
        have hbr : RecOk b.l[j] := hro
        have Hsn := Lib.hid (piece_snoc hj1 hjl)
        have hpl : ((b.l.take j).drop f).length ≤ 1000 := by rw [piece_len (by omega)]; omega
        have h3b := (Array.getElem?_eq_some_iff.1 p3).1
        generalize b.l[j] = r at *
        generalize (b.l.take j).drop f = L1 at *
        obtain ⟨kk, vv, gg, tt⟩ := r
        obtain ⟨c0, c1, c2, c3⟩ := hcc
        simp only at c0 c1 c2 c3
        have g6 : wr.cell? ⟨w.heap.size, 6, none⟩ = some (.slice (some ad) b.l.length c) := (cell_of p1 6).trans rfl
        have x6 : wr.cell? ⟨w.heap.size + 2, 6, none⟩ = some (.slice Al L1.length cl) := (cell_of p3 6).trans rfl
        go_upto_region 7 with fail
        -- R7
        have Hkr := Lib.hid (fun W F => recK_mk W F (r := (kk, vv, gg, tt)) (Nat.le_trans hbr.key (by simp [maxLen])) (Nat.le_trans hbr.val (by simp [maxLen])) hbr.time)
        have hod : Own recK 54 wr.drew (w.heap.size + 3) (fun _ => False) (.slice Al L1.length cl) L1 := ho.move (fun _ _ => rfl) (fun _ h => h.elim)
        have Hod := Lib.hid hod
        have H123 := Lib.hid (And.intro p1 (And.intro p2 (And.intro p3 hE)))
        have Hat := Lib.hid (fun k hk => (ho.at (k := k) hk).1)
        clear hod p1 p2 p3
        go_region_law (refine step_onef recK flat_rec (w.heap.size + 3) rfl (.tmp 37) (.tmp 43) 22 54 48 rfl Try.underlying22 info_rec (.slice Al L1.length cl) L1 (kk, vv, gg, tt) wr.heap.size [.string kk, .string vv, .bool gg, .int .i64 tt] (fun _ => False) (by simp [Act.eval, Act.put]) (by simp [Act.eval, Act.put]) (Hod.out.alloc _) (boxedN (heap_alloc_new wr.drew _)) (Hkr.out _ _) (by omega) (by simp only [maxLen]; omega) (by simp; omega) ?_; intro v9 w9 ho9 hg9 ha9; obtain ⟨L2, hL2⟩ : ∃ L, L = L1 ++ [(kk, vv, gg, tt)] := ⟨_, rfl⟩; rw [← hL2] at ho9; have HL2 := Lib.hid (Hsn.out.trans hL2.symm); clear hL2; obtain ⟨A9, c9, e9, l9, m9⟩ := ho9.slice; subst e9; have hold := fun k (hk : k < w.heap.size + 3) => (hg9.block k (by simp; omega) (fun e => by have := Hat.out k e.symm; omega)).trans (((Below.refl wr.heap.size wr).drew.alloc (Nat.le_refl _) _).block k (by omega)); have x9 : w9.cell? ⟨w.heap.size + 2, 6, none⟩ = some (.slice Al L1.length cl) := (cell_of ((hold (w.heap.size + 2) (by omega)).trans H123.out.2.2.1) 6).trans rfl; have f9 := frozen_of ((hold (w.heap.size + 2) (by omega)).trans H123.out.2.2.1) 6; have H9 := Lib.hid (And.intro ho9 (And.intro hg9 (And.intro ha9 hold))); clear ho9 hg9 ha9 hold)
        all_goals
          obtain ⟨ho9, hg9, ha9, hold⟩ := H9.out
          have hp9 := putAt_set ((hold (w.heap.size + 2) (by omega)).trans H123.out.2.2.1) 6 (.slice A9 L2.length c9)
          have hne9 : ∀ k, (Value.slice A9 L2.length c9).ownBlock = some k → k ≠ w.heap.size + 2 := fun k hk => by have := (ho9.at hk).1; omega
          have hE9 : Ext w w9 := Below.grown (Ext.trans _ _ _ H123.out.2.2.2 ((Below.refl wr.heap.size wr).drew.alloc (Nat.le_refl _) _)) hg9 (by simp; omega) (fun k hk => by have := Hat.out k hk; omega)
          have Hfin := Lib.hid (And.intro (hp9.own ho9 hne9 (fun _ h => h.elim)) (And.intro ((hp9.block w.heap.size (by omega)).trans ((hold w.heap.size (by omega)).trans H123.out.1)) (And.intro ((hp9.block (w.heap.size + 1) (by omega)).trans ((hold (w.heap.size + 1) (by omega)).trans H123.out.2.1)) (And.intro hp9.obj (hp9.below hE9 (by omega))))))
          clear ho9 hg9 ha9 hold hp9 hne9 hE9 x9 f9 H9
          go_wp2
          go_roundw
          case rel => exact ⟨j + 1, A9, c9, by omega, by omega, by go_num, by rw [HL2.out]; exact Hfin.out.1, Hfin.out.2.1, Hfin.out.2.2.1, by rw [HL2.out]; exact Hfin.out.2.2.2.1, Hfin.out.2.2.2.2⟩
          case measure => simp [intOf]; omega
        -- R7END
      · have hnei : ¬ (j : Int) < (t : Int) := by omega
        obtain rfl : j = t := by omega
        generalize (b.l.take j).drop f = L1 at *
        obtain ⟨sq, hsq⟩ : ∃ sq, sq = (if 0 < b.pid then b.seq + (f : Int) else 0) := ⟨_, rfl⟩
        have Hpe := Lib.hid (show P = ⟨b.base + (f : Int), b.pid, b.epoch, sq, b.kind, b.time, L1⟩ from HP.out.trans (by rw [hsq]; rfl))
        unfold btC pieceH at p3
        simp only at p3
        rw [← hsq] at p3
        clear hsq HP
        have k0 := (cell_of p3 0).trans rfl
        have k1 := (cell_of p3 1).trans rfl
        have k2 := (cell_of p3 2).trans rfl
        have k3 := (cell_of p3 3).trans rfl
        have k4 := (cell_of p3 4).trans rfl
        have k5 := (cell_of p3 5).trans rfl
        have k6 := (cell_of p3 6).trans rfl
        have hat := fun k (hk : (Value.slice Al L1.length cl).ownBlock = some k) => (ho.at hk).1
        go_wp2_with (refine gate_op (p := .store 24 (.tmp 6) (.tmp 46)) rfl ?_; go_must (refine put_row rfl 24 (.tmp 6) (.tmp 46) rfl (w.heap.size + 1) (btC ⟨b.base + (f : Int), b.pid, b.epoch, sq, b.kind, b.time, L1⟩ Al cl) rfl rfl _ _ p2 size_bt rfl (btC_one _ _ _) ?_; intro wf hpf))
        refine bodyPost_ret (results_cell_row rfl _ _ (w.heap.size + 1) _ _ _ _ rfl hpf.obj Try.underlying24 rfl size_bt) rfl ?_
        rw [Hpe.out]
        exact ⟨Al, cl, rfl, (hpf.own ho (fun k hk => by have := hat k hk; omega) (fun _ h => h.elim)).lower (by omega), hpf.below hE (by omega)⟩
theorem own_far {w : World} {n g : Nat} {v : Value} {l : List Rc} {cs : Array Value} (h : Own recK 54 w n (fun _ => False) v l) (hg : w.heap[g]? = some (.cells cs 24 (0, 0))) : ∀ k, v.ownBlock = some k → k ≠ g := by
  rintro k hk rfl
  obtain ⟨cs', ⟨h1, h2⟩, hr⟩ := h
  rcases h2 with ⟨rfl, _⟩ | ⟨g', cap, cur, rfl, hg', hh, rest⟩
  · cases hk
  · have e : g' = k := by simpa [Value.ownBlock] using hk
    subst e
    rw [hg] at hh
    injection hh with hh
    injection hh with e1 e2
    cases e2
theorem rzero_ok : BtOk btNone := ⟨⟨by decide, by decide⟩, ⟨by decide, by decide⟩, ⟨by decide, by decide⟩, ⟨by decide, by decide⟩, ⟨by decide, by decide⟩, ⟨by decide, by decide⟩⟩
theorem piece_all {b : BtM} (hv : validE b = 0) : pieceB b 0 b.l.length = b := by
  have hf := (validE_iff b).1 hv
  have h0 := hf.seq0
  have h1 := hf.nums.pid
  unfold pieceB
  obtain ⟨ba, pi, ep, sq, kd, tm, l⟩ := b
  simp only [List.take_length, List.drop_zero, Int.add_zero, Int.natCast_zero] at *
  by_cases hp : 0 < pi
  · rw [if_pos hp]
  · rw [if_neg hp, h0 (.inr (by omega))]
theorem valid_ok {b : BtM} (hv : validE b = 0) : BtOk b := by
  have hf := (validE_iff b).1 hv
  have g1 := hf.nums.base
  have g2 := hf.nums.pid
  have g3 := hf.nums.epoch
  have g4 := hf.nums.seq
  have g5 := hf.nums.kind
  have g6 := hf.nums.time
  exact ⟨⟨by omega, by omega⟩, ⟨by omega, by omega⟩, ⟨by omega, by omega⟩, ⟨by omega, by omega⟩, ⟨by omega, by omega⟩, ⟨by omega, by omega⟩⟩
end Go.Proofs.Ytaomhedjamnloaa
