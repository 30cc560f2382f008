/- RecOne: the walk of the law. -/
import Derived.Test.YtaomhedjamnloaaRecK
import Derived.Test.YtaomhedjamnloaaRecSame
import Derived.Test.YtaomhedjamnloaaRecCut
set_option linter.unusedVariables false
set_option linter.unusedSimpArgs false
namespace Go.Proofs.Ytaomhedjamnloaa
open Go Go.RowKit

/-- A batch that was cut, of the call's own. -/
def IsCut (B : Nat) (v : Value) (w : World) : Prop := ∃ b A c, v = .agg (btC b A c) ∧ CutOk b ∧ Own recK 54 w B (fun _ => False) (.slice A b.l.length c) b.l
theorem IsCut.ext {B : Nat} {v : Value} {w w' : World} (h : IsCut B v w) (hE : Ext w w') : IsCut B v w' := by
  obtain ⟨b, A, c, e, hk, h⟩ := h
  exact ⟨b, A, c, e, hk, h.below hE⟩
def SP.cut (B : Nat) : SP Ext := ⟨fun v w => IsCut B v w, fun h hE => h.ext hE⟩
theorem same_comm (a b : BtM) : sameB b a = sameB a b := by
  rw [Bool.eq_iff_iff, sameB_iff, sameB_iff]
  exact eq_comm
theorem enc_same {a b : BtM} (ha : validE a = 0) (hb : validE b = 0) : decide (encOf a = encOf b) = sameB a b := by
  rw [show encOf a = encB a from if_pos ha, show encOf b = encB b from if_pos hb, Bool.eq_iff_iff, decide_eq_true_iff, sameB_iff]
  exact ⟨encB_inj ha hb, fun h => by rw [h]⟩
set_option maxRecDepth 8000 in
set_option maxHeartbeats 1600000 in
theorem RecOne_calls (a0 : BtM) (A0 : Option Addr) (c0 : Nat) (b0 : BtM) (A1 : Option Addr) (c1 : Nat) (w : World) (ha : BtAt w w.heap.size a0 A0 c0) (hb : BtAt w w.heap.size b0 A1 c1) :
    Calls Try.prog 7 #[.agg (btC a0 A0 c0), .agg (btC b0 A1 c1)] w fun e w' => e = .returned (.bool true) ∧ Below w.heap.size w w' := by
  obtain ⟨h1, h2, hE1, hs1⟩ := two_new w (.cells (btC a0 A0 c0) 24) (.cells (btC b0 A1 c1) 24)
  have Hca := Lib.hid (fun W (hE : Ext w W) => cut3_calls W w.heap.size hE.size a0 A0 c0 (ha.below hE))
  have Hcb := Lib.hid (fun W (hE : Ext w W) => cut3_calls W w.heap.size hE.size b0 A1 c1 (hb.below hE))
  clear ha hb
  unfold btC at h1 h2 hE1 hs1 Hca Hcb
  unfold btC
  go_enter Try.func7, Try.ntmps7
  go_upto_region 1 with fail
  generalize (w.alloc _).alloc _ = w1 at *
  have Hj2 := Lib.hid (fun W (hE : Ext w1 W) => (⟨(hE.block w.heap.size (by omega)).trans h1⟩ : BtObj W w.heap.size a0 A0 a0.l.length c0))
  have Hj3 := Lib.hid (fun W (hE : Ext w1 W) => (⟨(hE.block (w.heap.size + 1) (by omega)).trans h2⟩ : BtObj W (w.heap.size + 1) b0 A1 b0.l.length c1))
  refine wp_region_tail 4 [.eq (.agg #[.int .i64 a0.base, .int .i64 a0.pid, .int .i64 a0.epoch, .int .i64 a0.seq, .int .i64 a0.kind, .int .i64 a0.time, .slice A0 a0.l.length c0]), .cut (w.heap.size + 2), .eq (.agg #[.int .i64 b0.base, .int .i64 b0.pid, .int .i64 b0.epoch, .int .i64 b0.seq, .int .i64 b0.kind, .int .i64 b0.time, .slice A1 b0.l.length c1]), .cut (w.heap.size + 2)] (by kernel_rfl) (by kernel_rfl) (by kernel_rfl) (by kernel_rfl) (pre_dst (m := 4) (by kernel_rfl)) ?_ ?_
  · refine ⟨?_, ?_, ?_, ?_, trivial⟩
    · intro S W K hE hf hd hK
      have f2 : S.tmps.getD 2 undef = .pointer (some ⟨w.heap.size, 0, none⟩) := hf 2 (by kernel_rfl)
      refine want_free rfl ?_
      rw [Array.getD_eq_getD_getElem?] at f2
      obtain ⟨k0, k1, k2, k3, k4, k5, k6⟩ := (Hj2.out W hE).cells
      go_simp
      exact hK _ _ (Ext.refl _) (fun _ => rfl)
    · intro S W K hE hf hd hK
      have d10 : S.tmps.getD 10 undef = (.agg #[.int .i64 a0.base, .int .i64 a0.pid, .int .i64 a0.epoch, .int .i64 a0.seq, .int .i64 a0.kind, .int .i64 a0.time, .slice A0 a0.l.length c0]) := hd 0 _ rfl (by kernel_rfl)
      refine want_free rfl ?_
      rw [Array.getD_eq_getD_getElem?] at d10
      go_simp
      refine (Hca.out W (Ext.trans _ _ _ hE1 hE)).mono ?_
      rintro e W' ⟨b, hok, A, c, rfl, ho, hb⟩
      exact hK _ _ hb (fun _ => ⟨b, A, c, rfl, hok, ho.lower (by have := hE.size; omega)⟩)
    · intro S W K hE hf hd hK
      have f3 : S.tmps.getD 3 undef = .pointer (some ⟨w.heap.size + 1, 0, none⟩) := hf 3 (by kernel_rfl)
      refine want_free rfl ?_
      rw [Array.getD_eq_getD_getElem?] at f3
      obtain ⟨k0, k1, k2, k3, k4, k5, k6⟩ := (Hj3.out W hE).cells
      go_simp
      exact hK _ _ (Ext.refl _) (fun _ => rfl)
    · intro S W K hE hf hd hK
      have d12 : S.tmps.getD 12 undef = (.agg #[.int .i64 b0.base, .int .i64 b0.pid, .int .i64 b0.epoch, .int .i64 b0.seq, .int .i64 b0.kind, .int .i64 b0.time, .slice A1 b0.l.length c1]) := hd 2 _ rfl (by kernel_rfl)
      refine want_free rfl ?_
      rw [Array.getD_eq_getD_getElem?] at d12
      go_simp
      refine (Hcb.out W (Ext.trans _ _ _ hE1 hE)).mono ?_
      rintro e W' ⟨b, hok, A, c, rfl, ho, hb⟩
      exact hK _ _ hb (fun _ => ⟨b, A, c, rfl, hok, ho.lower (by have := hE.size; omega)⟩)
  · intro vs W hE hV
    have v0 : vs 0 = (.agg #[.int .i64 a0.base, .int .i64 a0.pid, .int .i64 a0.epoch, .int .i64 a0.seq, .int .i64 a0.kind, .int .i64 a0.time, .slice A0 a0.l.length c0]) := hV 0 _ rfl (fun h => by cases h)
    have v1 := hV 1 _ rfl (fun h => by cases h)
    have v2 : vs 2 = (.agg #[.int .i64 b0.base, .int .i64 b0.pid, .int .i64 b0.epoch, .int .i64 b0.seq, .int .i64 b0.kind, .int .i64 b0.time, .slice A1 b0.l.length c1]) := hV 2 _ rfl (fun h => by cases h)
    have v3 := hV 3 _ rfl (fun h => by cases h)
    clear hV
    set_option maxRecDepth 100000 in simp only [putAll, List.take_succ_cons, List.take_zero, List.drop_succ_cons, List.drop_zero, List.map_cons, List.map_nil, List.length_cons, List.length_nil, Nat.reduceAdd, List.range_succ, List.range_zero, List.nil_append, List.cons_append]
    set_option maxRecDepth 100000 in go_simp
    obtain ⟨a, A2, c2, e2, hka, hoa⟩ := (show IsCut (w.heap.size + 2) (vs 1) W from v1)
    obtain ⟨b, A3, c3, e3, hkb, hob⟩ := (show IsCut (w.heap.size + 2) (vs 3) W from v3)
    have hj2 := (Hj2.out W hE).obj
    have hj3 := (Hj3.out W hE).obj
    have hEW := Ext.trans _ _ _ hE1 hE
    have hWs : w.heap.size + 2 ≤ W.heap.size := by have := hE.size; omega
    rw [e2, e3]
    clear v0 v1 v2 v3 e2 e3 h1 h2 Hj2 Hj3 Hca Hcb hE
    go_upto_region 2 with (first
      | (refine gate_op (p := .store 24 (.tmp 2) (.tmp 11)) rfl ?_; go_must (refine put_row rfl 24 (.tmp 2) (.tmp 11) rfl w.heap.size (btC a A2 c2) rfl rfl _ _ hj2 size_bt rfl (btC_one _ _ _) ?_; intro w3 hp3))
      | (refine gate_op (p := .store 24 (.tmp 3) (.tmp 13)) rfl ?_; go_must (refine put_row rfl 24 (.tmp 3) (.tmp 13) rfl (w.heap.size + 1) (btC b A3 c3) rfl rfl _ _ ((hp3.block _ (by omega)).trans hj3) size_bt rfl (btC_one _ _ _) ?_; intro w4 hp4)))
    have hata := fun k (hk : (Value.slice A2 a.l.length c2).ownBlock = some k) => (hoa.at hk).1
    have hatb := fun k (hk : (Value.slice A3 b.l.length c3).ownBlock = some k) => (hob.at hk).1
    have hoa4 := hp4.own (hp3.own hoa (fun k hk => by have := hata k hk; omega) (fun _ h => h.elim)) (fun k hk => by have := hata k hk; omega) (fun _ h => h.elim)
    have hob4 := hp4.own (hp3.own hob (fun k hk => by have := hatb k hk; omega) (fun _ h => h.elim)) (fun k hk => by have := hatb k hk; omega) (fun _ h => h.elim)
    have hba := btAt_own hka.ok hoa4
    have hbb := btAt_own hkb.ok hob4
    have hE4 := hp4.below (hp3.below hEW (Nat.le_refl _)) (by omega)
    have hs4 := hE4.size
    have hs34 : w.heap.size + 2 ≤ w4.heap.size := by rw [hp4.size, hp3.size]; exact hWs
    have Ja := Lib.hid (fun W (hE : Ext w4 W) => (⟨(hE.block w.heap.size (by omega)).trans ((hp4.block _ (by omega)).trans hp3.obj)⟩ : BtObj W w.heap.size a A2 a.l.length c2))
    have Jb := Lib.hid (fun W (hE : Ext w4 W) => (⟨(hE.block (w.heap.size + 1) (by omega)).trans hp4.obj⟩ : BtObj W (w.heap.size + 1) b A3 b.l.length c3))
    have Hea := Lib.hid (fun W (hE : Ext w4 W) => Encode_calls W w4.heap.size hE.size a A2 c2 (hba.below hE))
    have Heb := Lib.hid (fun W (hE : Ext w4 W) => Encode_calls W w4.heap.size hE.size b A3 c3 (hbb.below hE))
    have Hsab := Lib.hid (fun W (hE : Ext w4 W) => Same_calls W w4.heap.size hE.size a b A2 A3 c2 c3 (hba.below hE) (hbb.below hE))
    have Hrab := Lib.hid (fun W (hE : Ext w4 W) => Rsame_calls W w4.heap.size hE.size a b A2 A3 c2 c3 (hba.below hE) (hbb.below hE))
    have Hsaa := Lib.hid (fun W (hE : Ext w4 W) => Same_calls W w4.heap.size hE.size a a A2 A2 c2 c2 (hba.below hE) (hba.below hE))
    have Hsba := Lib.hid (fun W (hE : Ext w4 W) => Same_calls W w4.heap.size hE.size b a A3 A2 c3 c2 (hbb.below hE) (hba.below hE))
    rw [same_self] at Hsaa
    have HSB := Lib.hid (@enc_same a b)
    have hsc := same_comm a b
    rw [hsc] at Hsba
    clear hsc hba hbb hoa4 hob4 hata hatb hp3 hp4 hj2 hj3 hoa hob hEW hs1
    generalize sameB a b = sm at *
    unfold EncPost at Hea Heb
    generalize encOf a = La at *
    generalize encOf b = Lb at *
    generalize validE a = va at *
    generalize validE b = vb at *
    unfold btC at *
    obtain ⟨k0, k1, k2, k3, k4, k5, k6⟩ := (Ja.out _ (Ext.refl _)).cells
    go_wp2_with fail
    refine (Hea.out w4 (Ext.refl _)).mono ?_
    rintro e w5 ⟨v5, rfl, ho5, hE5⟩
    clear k0 k1 k2 k3 k4 k5 k6
    obtain ⟨k0, k1, k2, k3, k4, k5, k6⟩ := (Jb.out _ hE5).cells
    go_wp2_with fail
    refine (Heb.out w5 hE5).mono ?_
    rintro e w6 ⟨v6, rfl, ho6, hE6⟩
    have hE46 := Ext.trans _ _ _ hE5 hE6
    have ho56 := ho5.below hE6
    clear k0 k1 k2 k3 k4 k5 k6
    obtain ⟨k0, k1, k2, k3, k4, k5, k6⟩ := (Ja.out _ hE46).cells
    obtain ⟨l0, l1, l2, l3, l4, l5, l6⟩ := (Jb.out _ hE46).cells
    go_wp2_with fail
    refine (Hsab.out w6 hE46).mono ?_
    rintro e w7 ⟨rfl, hE7⟩
    have hE47 := Ext.trans _ _ _ hE46 hE7
    clear k0 k1 k2 k3 k4 k5 k6 l0 l1 l2 l3 l4 l5 l6
    obtain ⟨k0, k1, k2, k3, k4, k5, k6⟩ := (Ja.out _ hE47).cells
    obtain ⟨l0, l1, l2, l3, l4, l5, l6⟩ := (Jb.out _ hE47).cells
    go_wp2_with fail
    refine (Hrab.out w7 hE47).mono ?_
    rintro e w8 ⟨rfl, hE8⟩
    have hE48 := Ext.trans _ _ _ hE47 hE8
    clear k0 k1 k2 k3 k4 k5 k6 l0 l1 l2 l3 l4 l5 l6
    obtain ⟨k0, k1, k2, k3, k4, k5, k6⟩ := (Ja.out _ hE48).cells
    obtain ⟨l0, l1, l2, l3, l4, l5, l6⟩ := (Jb.out _ hE48).cells
    have hsm1 : (sm != sm) = false := by simp
    have hsm2 : (sm == sm) = true := by simp
    go_wp2_with fail
    refine (Hsaa.out w8 hE48).mono ?_
    rintro e w9 ⟨rfl, hE9⟩
    have hE49 := Ext.trans _ _ _ hE48 hE9
    clear k0 k1 k2 k3 k4 k5 k6 l0 l1 l2 l3 l4 l5 l6
    obtain ⟨k0, k1, k2, k3, k4, k5, k6⟩ := (Ja.out _ hE49).cells
    obtain ⟨l0, l1, l2, l3, l4, l5, l6⟩ := (Jb.out _ hE49).cells
    go_wp2_with fail
    refine (Hsba.out w9 hE49).mono ?_
    rintro e w10 ⟨rfl, hE10⟩
    have hE410 := Ext.trans _ _ _ hE49 hE10
    have hEfin := Ext.trans _ _ _ hE4 hE410
    clear k0 k1 k2 k3 k4 k5 k6 l0 l1 l2 l3 l4 l5 l6
    have hE610 := Ext.trans _ _ _ hE7 (Ext.trans _ _ _ hE8 (Ext.trans _ _ _ hE9 hE10))
    have hop := ho56.below hE610
    have hoq := ho6.below hE610
    obtain ⟨A7, c7, e7, _, _, hr7⟩ := hop.sl
    subst e7
    obtain ⟨A8, c8, e8, _, _, hr8⟩ := hoq.sl
    subst e8
    have hcv7 := conv_str (hr7) 31 9 5 c7 Try.underlying31 Try.underlying5 Try.underlying9
    have hcv8 := conv_str (hr8) 31 9 5 c8 Try.underlying31 Try.underlying5 Try.underlying9
    clear hr7 hr8 hop hoq ho5 ho6 ho56
    by_cases hva : va = 0
    · by_cases hvb : vb = 0
      · subst hva
        subst hvb
        have hl1 : (La == Lb) = sm := (show (La == Lb) = decide (La = Lb) from by rw [Bool.eq_iff_iff, beq_iff_eq, decide_eq_true_iff]).trans (HSB.out rfl rfl)
        have hl2 : decide (La = Lb) = sm := HSB.out rfl rfl
        have hle : ((⟨La.toArray⟩ : ByteArray) == ⟨Lb.toArray⟩) = sm := by rw [bytes_eq]; exact HSB.out rfl rfl
        go_wp2_with fail
        refine (awake3_calls _).mono ?_
        rintro e w11 ⟨rfl, hE11⟩
        go_wp2
        go_ret
        exact ⟨rfl, Ext.trans _ _ _ hEfin hE11⟩
      · subst hva
        have hd : decide (vb = 0) = false := decide_eq_false hvb
        have hd2 : (vb == 0) = false := by rw [beq_eq_false_iff_ne]; exact hvb
        clear hvb
        go_wp2_with fail
        refine (awake3_calls _).mono ?_
        rintro e w11 ⟨rfl, hE11⟩
        go_wp2
        go_ret
        exact ⟨rfl, Ext.trans _ _ _ hEfin hE11⟩
    · have hd : decide (va = 0) = false := decide_eq_false hva
      have hd2 : (va == 0) = false := by rw [beq_eq_false_iff_ne]; exact hva
      clear hva
      go_wp2_with fail
      refine (awake3_calls _).mono ?_
      rintro e w11 ⟨rfl, hE11⟩
      go_wp2
      go_ret
      exact ⟨rfl, Ext.trans _ _ _ hEfin hE11⟩
end Go.Proofs.Ytaomhedjamnloaa
