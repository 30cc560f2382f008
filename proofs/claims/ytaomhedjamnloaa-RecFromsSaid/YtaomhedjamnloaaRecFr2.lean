/- Contract: rec's From. -/
import Derived.Test.YtaomhedjamnloaaRecFr
import Derived.Test.YtaomhedjamnloaaRecI
set_option linter.unusedVariables false
set_option linter.unusedSimpArgs false
namespace Go.Proofs.Ytaomhedjamnloaa
open Go Go.RowKit

def fromB (b : BtM) (at_ : Int) : BtM × Bool :=
  if validE b ≠ 0 ∨ nextB b ≤ at_ then (btNone, false) else if markB b = true ∨ at_ ≤ b.base then (b, true) else (pieceB b (at_ - b.base).toNat b.l.length, true)
def FromPost (w : World) (p : BtM × Bool) (e : Ending) (w' : World) : Prop :=
  ∃ y A c, e = .returned (.tuple #[.agg (btC y A c), .bool p.2]) ∧ y = p.1 ∧ Own recK 54 w' w.heap.size (fun _ => False) (.slice A y.l.length c) y.l ∧ Ext w w'
theorem from_none {w w' : World} {p : BtM × Bool} (hE : Ext w w') (h : p = (btNone, false)) : FromPost w p (.returned (.tuple #[.agg #[.int .i64 0, .int .i64 0, .int .i64 0, .int .i64 0, .int .i64 0, .int .i64 0, .slice none 0 0], .bool false])) w' :=
  ⟨btNone, none, 0, by rw [h]; rfl, by rw [h], Own.nil _ _ _ _ _, hE⟩
set_option maxRecDepth 8000 in
set_option maxHeartbeats 4000000 in
theorem From_calls (w : World) (B : Nat) (hB : B ≤ w.heap.size) (b : BtM) (A : Option Addr) (c : Nat) (h : BtAt w B b A c) (hl : b.l.length ≤ 1000) (at_ : Int) (ha : -9223372036854775808 ≤ at_ ∧ at_ ≤ 9223372036854775807) :
    Calls Try.prog 30 #[.agg (btC b A c), .int .i64 at_] w (FromPost w (fromB b at_)) := by
  obtain ⟨p1, p2, hE2, hs2⟩ := two_new w (.cells (btC b A c) 24) (.cells (btC btNone none 0) 24)
  have Hbt := Lib.hid (fun W (hE : Ext w W) => (h.up hB).below hE)
  have Hv := Lib.hid (fun W (hE : Ext w W) => Valid_calls W w.heap.size hE.size b A c (Hbt.out W hE))
  have Hn := Lib.hid (fun W (hE : Ext w W) => Next_calls W w.heap.size hE.size b A c (Hbt.out W hE))
  have Hm := Lib.hid (fun W => mark_calls W b A c)
  have Hc := Lib.hid (fun W (hE : Ext w W) => Copy_calls W w.heap.size hE.size b A c (Hbt.out W hE) (by omega))
  obtain ⟨Q, hQ⟩ : ∃ q, q = fromB b at_ := ⟨_, rfl⟩
  rw [← hQ]
  have HQ := Lib.hid hQ
  unfold btC btNone at p1 p2 hE2 hs2
  unfold btC at Hv Hn Hm Hc
  unfold btC
  simp only [List.length_nil] at p1 p2 hE2 hs2
  clear hQ h
  go_enter Try.func30, Try.ntmps30
  go_upto_region 1 with fail
  generalize (w.alloc _).alloc _ = w2 at *
  have k0 := (cell_of p1 0).trans rfl
  have k1 := (cell_of p1 1).trans rfl
  have k2 := (cell_of p1 2).trans rfl
  have k3 := (cell_of p1 3).trans rfl
  have k4 := (cell_of p1 4).trans rfl
  have k5 := (cell_of p1 5).trans rfl
  have k6 := (cell_of p1 6).trans rfl
  go_wp2_with fail
  refine (Hv.out w2 hE2).mono ?_
  rintro e w3 ⟨rfl, hE3⟩
  clear k0 k1 k2 k3 k4 k5 k6
  have p13 := (hE3.block w.heap.size (by omega)).trans p1
  have p23 := (hE3.block (w.heap.size + 1) (by omega)).trans p2
  have hE3w := Ext.trans _ _ _ hE2 hE3
  have hs3 : w.heap.size + 2 ≤ w3.heap.size := by have := hE3.size; omega
  clear p1 p2 hE2 hE3 hs2
  by_cases hv : validE b = 0
  · rw [hv]
    have hf := (validE_iff b).1 hv
    have hnb := hf.nums.base
    have hns := hf.nums.seq
    have HF := Lib.hid hf
    have HV := Lib.hid hv
    clear hf hv
    have k0 := (cell_of p13 0).trans rfl
    have k1 := (cell_of p13 1).trans rfl
    have k2 := (cell_of p13 2).trans rfl
    have k3 := (cell_of p13 3).trans rfl
    have k4 := (cell_of p13 4).trans rfl
    have k5 := (cell_of p13 5).trans rfl
    have k6 := (cell_of p13 6).trans rfl
    go_wp2_with fail
    refine (Hn.out w3 hE3w).mono ?_
    rintro e w4 ⟨rfl, hE4⟩
    clear k0 k1 k2 k3 k4 k5 k6
    have p14 := (hE4.block w.heap.size (by omega)).trans p13
    have p24 := (hE4.block (w.heap.size + 1) (by omega)).trans p23
    have hE4w := Ext.trans _ _ _ hE3w hE4
    have hs4 : w.heap.size + 2 ≤ w4.heap.size := by have := hE4.size; omega
    clear p13 p23 hE3w hE4 hs3
    obtain ⟨nx, hnx⟩ : ∃ nx, nx = nextB b := ⟨_, rfl⟩
    rw [← hnx]
    have HNX := Lib.hid hnx
    clear hnx
    by_cases hge : nx ≤ at_
    · have Hqn := Lib.hid (show Q = (btNone, false) from by rw [HQ.out]; unfold fromB; rw [if_pos (.inr (by rw [← HNX.out]; exact hge))])
      go_wp2_with (refine gate_op (p := .store 24 (.tmp 4) (.tmp 16)) rfl ?_; go_must (refine put_row rfl 24 (.tmp 4) (.tmp 16) rfl (w.heap.size + 1) #[.int .i64 0, .int .i64 0, .int .i64 0, .int .i64 0, .int .i64 0, .int .i64 0, .slice none 0 0] rfl rfl _ _ p24 size_bt rfl (btC_one btNone none 0) ?_; intro wf hpf))
      refine bodyPost_ret (results_row2 rfl _ _ (w.heap.size + 1) _ _ _ _ rfl hpf.obj Try.underlying24 rfl size_bt) rfl ?_
      exact from_none (hpf.below hE4w (by omega)) Hqn.out
    · have hlt : at_ < nx := by omega
      have k0 := (cell_of p14 0).trans rfl
      have k1 := (cell_of p14 1).trans rfl
      have k2 := (cell_of p14 2).trans rfl
      have k3 := (cell_of p14 3).trans rfl
      have k4 := (cell_of p14 4).trans rfl
      have k5 := (cell_of p14 5).trans rfl
      have k6 := (cell_of p14 6).trans rfl
      go_wp2_with fail
      refine (Hm.out w4).mono ?_
      rintro e w5 ⟨rfl, hE5⟩
      clear k0 k1 k2 k3 k4 k5 k6
      have p15 := (hE5.block w.heap.size (by omega)).trans p14
      have p25 := (hE5.block (w.heap.size + 1) (by omega)).trans p24
      have hE5w := Ext.trans _ _ _ hE4w hE5
      clear p14 p24 hE4w hE5
      have Hno := Lib.hid (show ¬ (validE b ≠ 0 ∨ nextB b ≤ at_) from fun h => by
        rcases h with h | h
        · exact h HV.out
        · rw [← HNX.out] at h; omega)
      have Hfl := Lib.hid (show markB b = false → at_ < b.base + (b.l.length : Int) from fun hm => by
        have e : nextB b = b.base + (b.l.length : Int) := by
          unfold nextB
          rw [if_pos HV.out]
          unfold spanN
          rw [if_neg (by rw [hm]; decide)]
        have := HNX.out
        omega)
      obtain ⟨mk, hmk⟩ : ∃ mk, mk = markB b := ⟨_, rfl⟩
      rw [← hmk]
      have HM := Lib.hid hmk
      rw [← hmk] at Hfl
      clear hmk
      have k0 := (cell_of p15 0).trans rfl
      have k1 := (cell_of p15 1).trans rfl
      have k2 := (cell_of p15 2).trans rfl
      have k3 := (cell_of p15 3).trans rfl
      have k4 := (cell_of p15 4).trans rfl
      have k5 := (cell_of p15 5).trans rfl
      have k6 := (cell_of p15 6).trans rfl
      by_cases hc2 : mk = true ∨ at_ ≤ b.base
      · have Hqn := Lib.hid (show Q = (b, true) from by rw [HQ.out]; unfold fromB; rw [if_neg Hno.out, if_pos (by rw [← HM.out]; exact hc2)])
        have hcase : mk = true ∨ (mk = false ∧ at_ ≤ b.base) := by
          cases mk with
          | true => exact .inl rfl
          | false => exact .inr ⟨rfl, hc2.resolve_left (by decide)⟩
        clear hc2
        rcases hcase with rfl | ⟨rfl, hle⟩
        all_goals
          go_wp2_with fail
          refine (Hc.out w5 hE5w).mono ?_
          rintro e w6 ⟨A6, c6, rfl, ho6, hE6⟩
          have p26 := (hE6.block (w.heap.size + 1) (by have := hE5w.size; have := (Array.getElem?_eq_some_iff.1 p25).1; omega)).trans p25
          go_wp2_with (refine gate_op (p := .store 24 (.tmp 4) (.tmp 27)) rfl ?_; go_must (refine put_row rfl 24 (.tmp 4) (.tmp 27) rfl (w.heap.size + 1) (btC b A6 c6) rfl rfl _ _ p26 size_bt rfl (btC_one _ _ _) ?_; intro wf hpf))
          refine bodyPost_ret (results_row2 rfl _ _ (w.heap.size + 1) _ _ _ _ rfl hpf.obj Try.underlying24 rfl size_bt) rfl ?_
          exact ⟨b, A6, c6, by rw [Hqn.out]; rfl, by rw [Hqn.out], (hpf.own ho6 (own_far ho6 p26) (fun _ h => h.elim)).lower (by have := hE5w.size; omega), hpf.below (Ext.trans _ _ _ hE5w hE6) (by omega)⟩
      · have hmf : mk = false := by cases mk; rfl; exact absurd (.inl rfl) hc2
        subst hmf
        have hgt : b.base < at_ := by omega
        have hfl := Hfl.out (by first | rfl | trivial)
        obtain ⟨f, hff⟩ : ∃ f : Nat, at_ = b.base + (f : Int) := ⟨(at_ - b.base).toNat, by omega⟩
        subst hff
        have hfn : f ≤ b.l.length := by omega
        have Hqn := Lib.hid (show Q = (pieceB b f b.l.length, true) from by rw [HQ.out]; unfold fromB; rw [if_neg Hno.out, if_neg (by rw [← HM.out]; exact hc2)]; congr 2; omega)
        have Hpt := Lib.hid (part_calls w5 w.heap.size hE5w.size b A c (Hbt.out w5 hE5w) f b.l.length hfn (Nat.le_refl _) hl hnb hns)
        rw [part_piece HV.out] at Hpt
        unfold btC at Hpt
        clear hc2 Hfl Hno
        have hbf : b.base + (f : Int) - b.base = (f : Int) := by omega
        go_wp2_with fail
        (with_reducible refine Hpt.out.mono ?_)
        clear hbf
        rintro e w6 ⟨A6, c6, rfl, ho6, hE6⟩
        clear k0 k1 k2 k3 k4 k5 k6
        have p26 := (hE6.block (w.heap.size + 1) (by have := hE5w.size; have := (Array.getElem?_eq_some_iff.1 p25).1; omega)).trans p25
        generalize pieceB b f b.l.length = P at *
        go_wp2_with (refine gate_op (p := .store 24 (.tmp 4) (.tmp 36)) rfl ?_; go_must (refine put_row rfl 24 (.tmp 4) (.tmp 36) rfl (w.heap.size + 1) (btC P A6 c6) rfl rfl _ _ p26 size_bt rfl (btC_one _ _ _) ?_; intro wf hpf))
        refine bodyPost_ret (results_row2 rfl _ _ (w.heap.size + 1) _ _ _ _ rfl hpf.obj Try.underlying24 rfl size_bt) rfl ?_
        exact ⟨P, A6, c6, by rw [Hqn.out]; rfl, by rw [Hqn.out], (hpf.own ho6 (own_far ho6 p26) (fun _ h => h.elim)).lower (by have := hE5w.size; omega), hpf.below (Ext.trans _ _ _ hE5w hE6) (by omega)⟩
  · have Hqn := Lib.hid (show Q = (btNone, false) from by rw [HQ.out]; unfold fromB; rw [if_pos (.inl hv)])
    have hd : decide (validE b = 0) = false := decide_eq_false hv
    have hd2 : (validE b == 0) = false := by rw [beq_eq_false_iff_ne]; exact hv
    have hd3 : (validE b != 0) = true := by simpa using hv
    generalize validE b = v at *
    clear hv
    go_wp2_with (refine gate_op (p := .store 24 (.tmp 4) (.tmp 16)) rfl ?_; go_must (refine put_row rfl 24 (.tmp 4) (.tmp 16) rfl (w.heap.size + 1) #[.int .i64 0, .int .i64 0, .int .i64 0, .int .i64 0, .int .i64 0, .int .i64 0, .slice none 0 0] rfl rfl _ _ p23 size_bt rfl (btC_one btNone none 0) ?_; intro wf hpf))
    refine bodyPost_ret (results_row2 rfl _ _ (w.heap.size + 1) _ _ _ _ rfl hpf.obj Try.underlying24 rfl size_bt) rfl ?_
    exact from_none (hpf.below hE3w (by omega)) Hqn.out
end Go.Proofs.Ytaomhedjamnloaa
