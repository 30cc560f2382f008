/- RecBytes: the walk of the law. -/
import Derived.Test.YtaomhedjamnloaaRecK
import Derived.Test.YtaomhedjamnloaaRecL
import Derived.Test.YtaomhedjamnloaaRecCut
set_option linter.unusedVariables false
set_option linter.unusedSimpArgs false
namespace Go.Proofs.Ytaomhedjamnloaa
open Go Go.RowKit

theorem encOf_len (b : BtM) : (encOf b).length ≤ 200000 := by
  unfold encOf
  split
  · rename_i hv
    have hf := (validE_iff b).1 hv
    have g1 := hf.nums.base
    have g2 := hf.nums.pid
    have g3 := hf.nums.epoch
    have g4 := hf.nums.seq
    have g6 := hf.nums.time
    have hlen := hf.len
    have h1 := (encN_len b.base.toNat (by omega)).2
    have h2 := (encN_len b.pid.toNat (by omega)).2
    have h3 := (encN_len b.epoch.toNat (by omega)).2
    have h4 := (encN_len b.seq.toNat (by omega)).2
    have h6 := (encN_len b.time.toNat (by omega)).2
    have h7 := (encN_len b.l.length (by omega)).2
    have h8 := encRs_len b.time g6 b.l ⟨#[]⟩ hf.recs
    rw [encB_parts2 b]
    simp only [List.length_append, List.length_cons, List.length_nil]
    split <;> split <;> simp only [List.length_append, List.length_cons, List.length_nil] <;> omega
  · exact Nat.zero_le _
set_option maxRecDepth 8000 in
set_option maxHeartbeats 1600000 in
theorem RecBytes_calls (b0 : BtM) (A0 : Option Addr) (c0 : Nat) (w : World) (h : BtAt w w.heap.size b0 A0 c0) :
    Calls Try.prog 6 #[.agg (btC b0 A0 c0)] w fun e w' => e = .returned (.bool true) ∧ Below w.heap.size w w' := by
  obtain ⟨h1, h2, h3⟩ := one_new w (.cells (btC b0 A0 c0) 24)
  have Hcut := Lib.hid (cut3_calls _ w.heap.size (by omega) b0 A0 c0 (h.below h2))
  clear h
  go_enter Try.func6, Try.ntmps6
  unfold btC at *
  go_upto_region 1 with fail
  generalize w.alloc _ = w1 at *
  have k0 := (cell_of h1 0).trans rfl
  have k1 := (cell_of h1 1).trans rfl
  have k2 := (cell_of h1 2).trans rfl
  have k3 := (cell_of h1 3).trans rfl
  have k4 := (cell_of h1 4).trans rfl
  have k5 := (cell_of h1 5).trans rfl
  have k6 := (cell_of h1 6).trans rfl
  go_wp2_with fail
  refine Hcut.out.mono ?_
  rintro e w2 ⟨b, hok, A, c, rfl, ho, hE2⟩
  have hs2 := hE2.size
  have h12 := (hE2.block w.heap.size (by omega)).trans h1
  clear k0 k1 k2 k3 k4 k5 k6
  go_upto_region 2 with (refine gate_op (p := .store 24 (.tmp 1) (.tmp 10)) rfl ?_; go_must (refine put_row rfl 24 (.tmp 1) (.tmp 10) rfl w.heap.size (btC b A c) rfl rfl _ _ h12 size_bt rfl (btC_one _ _ _) ?_; intro w3 hp3))
  have ho3 := hp3.own ho (fun k hk => by have := (ho.at hk).1; omega) (fun _ h => h.elim)
  have hE3 := hp3.below (Ext.trans _ _ _ h2 hE2) (Nat.le_refl _)
  have hb3 := btAt_own hok.ok ho3
  have hp3s := hp3.size
  have Hj := Lib.hid (fun W (hE : Ext w3 W) => (⟨(hE.block w.heap.size (by omega)).trans hp3.obj⟩ : BtObj W w.heap.size b A b.l.length c))
  have Hea := Lib.hid (fun W (hE : Ext w3 W) => Encode_calls W w3.heap.size hE.size b A c (hb3.below hE))
  have Hra := Lib.hid (fun W (hE : Ext w3 W) => Rencode_calls W w3.heap.size hE.size b A c (hb3.below hE))
  have Hsz := Lib.hid (fun W (hE : Ext w3 W) => Size_calls W w3.heap.size hE.size b A c (hb3.below hE))
  have Hrs := Lib.hid (fun W (hE : Ext w3 W) (A' : Option Addr) (c' : Nat) (hb' : BtAt W W.heap.size b A' c') => Rsame_calls W W.heap.size (Nat.le_refl _) b b A' A c' c hb' ((hb3.below hE).up hE.size))
  rw [same_self] at Hrs
  have hL := encOf_len b
  have Hdec := Lib.hid (show validE b = 0 → decB (encOf b) = some b from fun h => by rw [show encOf b = encB b from if_pos h]; exact decB_enc h)
  have hokb := hok.ok
  clear Hcut h1 h12 hp3 ho ho3 hb3 hE2 h2 hok
  unfold EncPost at Hea Hra
  generalize encOf b = L at *
  generalize validE b = vb at *
  unfold btC at Hea Hra Hsz
  obtain ⟨k0, k1, k2, k3, k4, k5, k6⟩ := (Hj.out _ (Ext.refl _)).cells
  go_wp2_with fail
  refine (Hea.out w3 (Ext.refl _)).mono ?_
  rintro e w4 ⟨v4, rfl, ho4, hE4⟩
  clear k0 k1 k2 k3 k4 k5 k6
  obtain ⟨k0, k1, k2, k3, k4, k5, k6⟩ := (Hj.out _ hE4).cells
  go_wp2_with fail
  refine (Hra.out w4 hE4).mono ?_
  rintro e w5 ⟨v5, rfl, ho5, hE5⟩
  have hE35 := Ext.trans _ _ _ hE4 hE5
  have ho45 := ho4.below hE5
  obtain ⟨A7, c7, e7, l7, m7, hr7⟩ := ho45.sl
  subst e7
  obtain ⟨A8, c8, e8, l8, m8, hr8⟩ := ho5.sl
  subst e8
  have hF7 : ∀ k, (False ∨ (Value.slice A7 L.length c7).ownBlock = some k) → k < w5.heap.size := fun k hk => by
    rcases hk with hk | hk
    · exact hk.elim
    · exact (ho45.at hk).2
  have hcv7 := conv_str (hr7) 31 9 5 c7 Try.underlying31 Try.underlying5 Try.underlying9
  have hcv8 := conv_str (hr8) 31 9 5 c8 Try.underlying31 Try.underlying5 Try.underlying9
  have HR7 := Lib.hid (fun W (hE : Ext w5 W) => hr7.belowF hF7 hE)
  have HF7 := Lib.hid (fun W (hE : Ext w5 W) k hk => Nat.lt_of_lt_of_le (hF7 k hk) hE.size)
  have hne : ((⟨L.toArray⟩ : ByteArray) != ⟨L.toArray⟩) = false := by rw [bytes_ne]; simp
  have hve2 : (vb != vb) = false := by simp
  clear k0 k1 k2 k3 k4 k5 k6 hr7 hr8 hF7 ho4 ho5 ho45
  obtain ⟨k0, k1, k2, k3, k4, k5, k6⟩ := (Hj.out _ hE35).cells
  go_wp2_with fail
  refine (Hsz.out w5 hE35).mono ?_
  rintro e w6 ⟨rfl, hE6⟩
  have hE36 := Ext.trans _ _ _ hE35 hE6
  clear k0 k1 k2 k3 k4 k5 k6 hcv7 hcv8
  by_cases hv : vb = 0
  · subst hv
    have Hd2 := Lib.hid (Decode_calls A7 c7 L _ w6 (by omega) l7 m7 (HF7.out w6 hE6) (HR7.out w6 hE6))
    rw [Hdec.out rfl] at Hd2
    go_wp2_with fail
    refine Hd2.out.mono ?_
    rintro e w7 ⟨x, A9, c9, er, rfl, ho9, hE7, rfl, rfl⟩
    have hE37 := Ext.trans _ _ _ hE36 hE7
    unfold btC
    go_upto_region 9 with (refine gate_op (p := .store 24 (.tmp 7) (.tmp 44)) rfl ?_; go_must (refine put_row rfl 24 (.tmp 7) (.tmp 44) rfl w7.heap.size (btC x A9 c9) rfl rfl _ _ (one_new _ _).1 size_bt rfl (btC_one _ _ _) ?_; intro w9 hp9; have hE9 : Ext w7 w9 := hp9.below (one_new _ _).2.1 (Nat.le_refl _); have ho9' := hp9.own (ho9.below (one_new w7 _).2.1) (fun k hk => by have := (ho9.at hk).2; omega) (fun _ h => h.elim); have H9 := Lib.hid (And.intro hE9 (And.intro ho9' hp9.obj)); clear hE9 ho9' hp9))
    obtain ⟨hE79, ho9b, hj9⟩ := H9.out
    have hE39 := Ext.trans _ _ _ hE37 hE79
    have Hs2 := Lib.hid (Hrs.out w9 hE39 A9 c9 (btAt_own hokb ho9b))
    unfold btC at Hs2 hj9
    obtain ⟨k0, k1, k2, k3, k4, k5, k6⟩ := (Hj.out _ hE39).cells
    have l0 := (cell_of hj9 0).trans rfl
    have l1 := (cell_of hj9 1).trans rfl
    have l2 := (cell_of hj9 2).trans rfl
    have l3 := (cell_of hj9 3).trans rfl
    have l4 := (cell_of hj9 4).trans rfl
    have l5 := (cell_of hj9 5).trans rfl
    have l6 := (cell_of hj9 6).trans rfl
    clear hj9 ho9b H9 ho9
    go_wp2_with fail
    refine Hs2.out.mono ?_
    rintro e w10 ⟨rfl, hE10⟩
    clear k0 k1 k2 k3 k4 k5 k6 l0 l1 l2 l3 l4 l5 l6
    go_wp2_with fail
    refine (awake3_calls _).mono ?_
    rintro e w11 ⟨rfl, hE11⟩
    go_wp2
    go_ret
    exact ⟨rfl, Ext.trans _ _ _ hE3 (Ext.trans _ _ _ hE39 (Ext.trans _ _ _ hE10 hE11))⟩
  · have hd : decide (vb = 0) = false := decide_eq_false hv
    have hd2 : (vb == 0) = false := by rw [beq_eq_false_iff_ne]; exact hv
    have hd3 : (vb != 0) = true := by simpa using hv
    clear hv
    go_wp2_with fail
    refine (awake3_calls _).mono ?_
    rintro e w11 ⟨rfl, hE11⟩
    go_wp2
    go_ret
    exact ⟨rfl, Ext.trans _ _ _ hE3 (Ext.trans _ _ _ hE36 hE11)⟩
end Go.Proofs.Ytaomhedjamnloaa
