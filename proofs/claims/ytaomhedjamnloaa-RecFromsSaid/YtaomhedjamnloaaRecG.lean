/- Contract of rec: Decode. -/
import Derived.Test.YtaomhedjamnloaaRecF
set_option linter.unusedVariables false
set_option linter.unusedSimpArgs false
namespace Go.Proofs.Ytaomhedjamnloaa
open Go Go.RowKit

def DecPost (w : World) (q : Option BtM) (e : Ending) (w' : World) : Prop :=
  ∃ b A c er, e = .returned (.tuple #[.agg (btC b A c), .int .i64 er]) ∧ Own recK 54 w' w.heap.size (fun _ => False) (.slice A b.l.length c) b.l ∧ Ext w w' ∧ (match q with | some b' => b = b' ∧ er = 0 | none => b = btNone ∧ er = 6)
theorem dec_none {w w' : World} (hE : Ext w w') : DecPost w none (.returned (.tuple #[.agg #[.int .i64 0, .int .i64 0, .int .i64 0, .int .i64 0, .int .i64 0, .int .i64 0, .slice none 0 0], .int .i64 6])) w' :=
  ⟨btNone, none, 0, 6, rfl, Own.nil _ _ _ _ _, hE, rfl, rfl⟩
def finR (o : Option (BtM × RdM)) : Option BtM := match o with
  | none => none
  | some (b, y) => if (EndR y).err = 0 ∧ validE b = 0 then some b else none
theorem decB_fin (l : List UInt8) : decB l = finR (bodyR ⟨l, 0, 0⟩) := rfl
theorem readsR_bind {t : Int} {n k : Nat} {x0 y : RdM} {a : ByteArray} {lk : List Rc} (hk : k < n) (h : readsR t n x0 ⟨#[]⟩ = match readsR t (n - k) y a with | none => none | some (l2, z) => some (lk ++ l2, z)) :
    (readR y t a = none → readsR t n x0 ⟨#[]⟩ = none) ∧ ∀ r z, readR y t a = some (r, z) → readsR t n x0 ⟨#[]⟩ = match readsR t (n - (k + 1)) z r.1 with | none => none | some (l2, z) => some ((lk ++ [r]) ++ l2, z) := by
  rw [show n - k = (n - (k + 1)) + 1 by omega, readsR] at h
  constructor
  · intro h1
    rw [h, h1]
  · intro r z h1
    rw [h, h1]
    simp only
    cases readsR t (n - (k + 1)) z r.1 with
    | none => rfl
    | some p => simp
set_option maxRecDepth 8000 in
set_option maxHeartbeats 1600000 in
theorem Decode_calls (A0 : Option Addr) (c0 : Nat) (l : List UInt8) (F : Nat → Prop) (w : World) (hl : l.length ≤ 1000000000) (hc0 : l.length ≤ c0) (hm0 : c0 ≤ maxLen) (hF : ∀ k, F k → k < w.heap.size) (hr : Row kb w F A0 l) :
    Calls Try.prog 19 #[.slice A0 l.length c0] w (DecPost w (decB l)) := by
  obtain ⟨h2, h4, hE2, hs2⟩ := two_new w (.cells (btC btNone none 0) 24) (.cells (btC btNone none 0) 24)
  unfold btC btNone at h2 h4 hE2 hs2
  simp only [List.length_nil] at h2 h4 hE2 hs2
  have HN := Lib.hid (NewReader_calls A0 c0 l F _ (by omega) hc0 hm0 (hr.belowF hF hE2))
  obtain ⟨Q, hQ⟩ : ∃ q, q = decB l := ⟨_, rfl⟩
  rw [← hQ]
  rw [decB_fin] at hQ
  unfold bodyR at hQ
  simp only at hQ
  have HQ := Lib.hid hQ
  clear hQ
  obtain ⟨H, hH⟩ : ∃ H, H = headR (ByteR ⟨l, 0, 0⟩).2 := ⟨_, rfl⟩
  rw [← hH] at HQ
  have HH := Lib.hid hH
  clear hH
  go_enter Try.func19, Try.ntmps19
  go_upto_region 2 with fail
  generalize hw2 : (w.alloc _).alloc _ = w2 at *
  clear hw2
  go_wp2_with fail
  refine HN.out.mono ?_
  rintro e w3 ⟨g, A, c, rfl, hrd3, hE3⟩
  have hs3 := hE3.size
  have hgb := hrd3.base
  have HB := Lib.hid (rdByte_calls _ _ g A c _ hrd3)
  generalize ByteR ⟨l, 0, 0⟩ = V at *
  obtain ⟨v, x1⟩ := V
  simp only at HQ HH HB
  go_wp2_with fail
  refine HB.out.mono ?_
  rintro e w4 ⟨rfl, hrd4, hm4⟩
  have hs4 := hm4.size
  have hE4 := Ext.trans _ _ _ hE2 (Below.mono (Below.trans hE3 (hm4.below hgb hs3)) (Nat.le_refl _))
  have h24 := (hm4.block w.heap.size (by omega) (by omega)).trans ((hE3.block _ (by omega)).trans h2)
  have h44 := (hm4.block (w.heap.size + 1) (by omega) (by omega)).trans ((hE3.block _ (by omega)).trans h4)
  by_cases hv1 : v = 1
  · subst hv1
    have hq1 := HQ.out
    rw [if_neg (by decide)] at hq1
    have HQ1 := Lib.hid hq1
    clear hq1 HQ HB HN h2 h4 hrd3 hE3 hm4
    have HK := Lib.hid (rdByte_calls _ _ g A c _ hrd4)
    have hH := HH.out
    unfold headR at hH
    simp only at hH
    have HH1 := Lib.hid hH
    clear hH HH
    have hkb : 0 ≤ (ByteR x1).1 ∧ (ByteR x1).1 ≤ 255 := by
      unfold ByteR
      split
      · split
        · simp only; omega
        · have := (x1.bs.getD x1.pos 0).toNat_lt
          simp only
          omega
      · simp only; omega
    generalize ByteR x1 = KB at *
    obtain ⟨kd, x2⟩ := KB
    simp only at HH1 HK hkb
    go_wp2_with fail
    refine HK.out.mono ?_
    rintro e w5 ⟨rfl, hrd5, hm5⟩
    have HA := Lib.hid (upto_calls _ _ g A c x2 hrd5 1099511627776 (by decide))
    have hab : 0 ≤ (uptoR x2 1099511627776).1 ∧ (uptoR x2 1099511627776).1 ≤ 1099511627777 := by unfold uptoR; simp only; split <;> omega
    generalize uptoR x2 1099511627776 = U at *
    obtain ⟨ba, x3⟩ := U
    simp only at HH1 HA hab
    go_wp2_with fail
    refine HA.out.mono ?_
    rintro e w6 ⟨rfl, hrd6, hm6⟩
    have HP := Lib.hid (upto_calls _ _ g A c x3 hrd6 1048576 (by decide))
    have hpb : 0 ≤ (uptoR x3 1048576).1 ∧ (uptoR x3 1048576).1 ≤ 1048577 := by unfold uptoR; simp only; split <;> omega
    generalize uptoR x3 1048576 = U at *
    obtain ⟨pi, x4⟩ := U
    simp only at HH1 HP hpb
    go_wp2_with fail
    refine HP.out.mono ?_
    rintro e w7 ⟨rfl, hrd7, hm7⟩
    have hm57 := (hm5.trans hm6).trans hm7
    have hs7 := hm57.size
    have h27 := (hm57.block w.heap.size (by omega) (by omega)).trans h24
    have h47 := (hm57.block (w.heap.size + 1) (by omega) (by omega)).trans h44
    have hE7 : Ext w w7 := Below.trans hE4 (hm57.below (B := w.heap.size) (by omega) (by omega))
    obtain ⟨j1, j3, j4⟩ := one_new w7 (.cells #[.int .i64 ba, .int .i64 pi, .int .i64 0, .int .i64 0, .int .i64 kd, .int .i64 0, .slice none 0 0] 24)
    have hrd8 := hrd7.ext j3
    have h28 := (j3.block w.heap.size (by omega)).trans h27
    have h48 := (j3.block (w.heap.size + 1) (by omega)).trans h47
    have hE8 := Ext.trans _ _ _ hE7 j3
    have hgl := hrd7.lt
    have hfar := fun ad (e : A = some ad) => (hrd7.far ad e).2.2
    have hgb2 : w.heap.size + 2 ≤ g := by omega
    have HAr : ∀ r, w.heap.size ≤ r → r < w.heap.size + 2 ∨ w7.heap.size ≤ r → (g ≠ r ∧ ∀ ad, A = some ad → ad.block ≠ r) := fun r h1 h2 => ⟨by omega, fun ad e => by have := hfar ad e; have := (hrd7.far ad e).1; omega⟩
    have HAr := Lib.hid HAr
    clear HK HA HP hrd4 hrd5 hrd6 hrd7 hm5 hm6 hm7 hm57 h24 h44 h27 h47 hE4 hE7 j3 hfar hE2
    go_upto_if 28 with fail
    generalize hw8 : w7.alloc _ = w8 at *
    clear hw8
    go_cut [6] (fun u wx => u = .pointer (some ⟨w7.heap.size, 0, none⟩) ∧ ∃ ep sq x7, Hid (H = ({ base := ba, pid := pi, epoch := ep, seq := sq, kind := kd, time := (uptoR x7 1099511627776).1, l := [] }, (uptoR x7 1099511627776).2)) ∧ (0 ≤ ep ∧ ep ≤ 32768) ∧ (0 ≤ sq ∧ sq ≤ 2147483648) ∧ RdAt wx w2.heap.size g A c x7 ∧ Ext w wx ∧ w8.heap.size ≤ wx.heap.size ∧ wx.heap[w.heap.size]? = some (.cells #[.int .i64 0, .int .i64 0, .int .i64 0, .int .i64 0, .int .i64 0, .int .i64 0, .slice none 0 0] 24 (0, 0)) ∧ wx.heap[w.heap.size + 1]? = some (.cells #[.int .i64 0, .int .i64 0, .int .i64 0, .int .i64 0, .int .i64 0, .int .i64 0, .slice none 0 0] 24 (0, 0)) ∧ wx.heap[w7.heap.size]? = some (.cells #[.int .i64 ba, .int .i64 pi, .int .i64 ep, .int .i64 sq, .int .i64 kd, .int .i64 0, .slice none 0 0] 24 (0, 0)))
    case first =>
      by_cases hp0 : 0 < pi
      · have HE := Lib.hid (upto_calls _ _ g A c x4 hrd8 32767 (by decide))
        have heb : 0 ≤ (uptoR x4 32767).1 ∧ (uptoR x4 32767).1 ≤ 32768 := by unfold uptoR; simp only; split <;> omega
        have hh := HH1.out
        rw [if_pos hp0] at hh
        simp only [hp0, true_and] at hh
        have HH2 := Lib.hid hh
        clear hh HH1
        generalize uptoR x4 32767 = U at *
        obtain ⟨ep, x5⟩ := U
        simp only at HH2 HE heb
        go_wp2_with fail
        refine HE.out.mono ?_
        rintro e w9 ⟨rfl, hrd9, hm9⟩
        have hs9 := hm9.size
        have h29 := (hm9.block w.heap.size (by omega) (by omega)).trans h28
        have h49 := (hm9.block (w.heap.size + 1) (by omega) (by omega)).trans h48
        have h69 := (hm9.block w7.heap.size (by omega) (by omega)).trans j1
        have hE9 : Ext w w9 := Below.trans hE8 (hm9.below (B := w.heap.size) (by omega) (by omega))
        go_wp2_with (first
          | (refine gate_op (p := .store 3 (.tmp 31) (.tmp 30)) rfl ?_; go_must (refine put_cell rfl 3 (.tmp 31) (.tmp 30) rfl w7.heap.size 2 (.int .i64 ep) rfl rfl rfl _ _ h69 size_int (show 2 < 7 by decide) ?_; intro w10 hp10))
          | (refine gate_op (p := .load 24 (.tmp 6)) rfl ?_; go_must (refine wpList_load_row rfl 24 (.tmp 6) rfl w7.heap.size rfl _ #[.int .i64 ba, .int .i64 pi, .int .i64 ep, .int .i64 0, .int .i64 kd, .int .i64 0, .slice none 0 0] (0, 0) _ hp10.obj Try.underlying24 rfl size_bt ?_)))
        have hrd10 := hp10.rd hrd9 (HAr.out _ (by omega) (by omega)).1 (HAr.out _ (by omega) (by omega)).2
        have h210 := (hp10.block w.heap.size (by omega)).trans h29
        have h410 := (hp10.block (w.heap.size + 1) (by omega)).trans h49
        have hE10 := hp10.below hE9 (by omega)
        have hs10 := hp10.size
        have h610 := hp10.obj
        clear hp10 h29 h49 h69 hrd9 hm9 hE9
        refine (mark_calls _ ⟨ba, pi, ep, 0, kd, 0, []⟩ none 0).mono ?_
        rintro e w11 ⟨rfl, hE11⟩
        have hrd11 := hrd10.ext hE11
        have hs11 := hE11.size
        have h211 := (hE11.block w.heap.size (by omega)).trans h210
        have h411 := (hE11.block (w.heap.size + 1) (by omega)).trans h410
        have h611 := (hE11.block w7.heap.size (by omega)).trans h610
        have hE11' := Ext.trans _ _ _ hE10 hE11
        have hmk : markB ⟨ba, pi, ep, 0, kd, 0, []⟩ = (kd == 2 || kd == 3) := rfl
        rw [hmk]
        cases hkv : (kd == 2 || kd == 3) with
        | true =>
          have hh := HH2.out
          rw [hkv, if_neg (by decide)] at hh
          have HH3 := Lib.hid hh
          clear hh HH2 hmk hkv
          go_wp2
          go_meet
          exact ⟨rfl, ep, 0, x5, HH3, heb, by decide, hrd11, hE11', by omega, h211, h411, h611⟩
        | false =>
          have hh := HH2.out
          rw [hkv, if_pos rfl] at hh
          have HH3 := Lib.hid hh
          clear hh HH2 hmk hkv
          have HS := Lib.hid (upto_calls _ _ g A c x5 hrd11 2147483647 (by decide))
          have hsb : 0 ≤ (uptoR x5 2147483647).1 ∧ (uptoR x5 2147483647).1 ≤ 2147483648 := by unfold uptoR; simp only; split <;> omega
          generalize uptoR x5 2147483647 = U at *
          obtain ⟨sq, x6⟩ := U
          simp only at HH3 HS hsb
          go_wp2_with fail
          refine HS.out.mono ?_
          rintro e w12 ⟨rfl, hrd12, hm12⟩
          have hs12 := hm12.size
          have h212 := (hm12.block w.heap.size (by omega) (by omega)).trans h211
          have h412 := (hm12.block (w.heap.size + 1) (by omega) (by omega)).trans h411
          have h612 := (hm12.block w7.heap.size (by omega) (by omega)).trans h611
          have hE12 : Ext w w12 := Below.trans hE11' (hm12.below (B := w.heap.size) (by omega) (by omega))
          go_wp2_with (refine gate_op (p := .store 3 (.tmp 37) (.tmp 36)) rfl ?_; go_must (refine put_cell rfl 3 (.tmp 37) (.tmp 36) rfl w7.heap.size 3 (.int .i64 sq) rfl rfl rfl _ _ h612 size_int (show 3 < 7 by decide) ?_; intro w13 hp13))
          go_meet
          exact ⟨rfl, ep, sq, x6, HH3, heb, hsb, hp13.rd hrd12 (HAr.out _ (by omega) (by omega)).1 (HAr.out _ (by omega) (by omega)).2, hp13.below hE12 (by omega), by rw [hp13.size]; omega, (hp13.block w.heap.size (by omega)).trans h212, (hp13.block (w.heap.size + 1) (by omega)).trans h412, hp13.obj⟩
      · have hh := HH1.out
        rw [if_neg hp0] at hh
        simp only [hp0, false_and, if_false] at hh
        have HH2 := Lib.hid hh
        clear hh HH1
        go_wp2
        go_meet
        exact ⟨rfl, 0, 0, x4, HH2, by decide, by decide, hrd8, hE8, Nat.le_refl _, h28, h48, j1⟩
    case rest =>
      obtain ⟨rfl, ep, sq, x7, HH3, heb, hsb, hrd9, hE9, hs9, h29, h49, h69⟩ := hcut
      clear HH1 hrd8 hE8 h28 h48 j1
      have HT := Lib.hid (upto_calls _ _ g A c x7 hrd9 1099511627776 (by decide))
      have htb : 0 ≤ (uptoR x7 1099511627776).1 ∧ (uptoR x7 1099511627776).1 ≤ 1099511627777 := by unfold uptoR; simp only; split <;> omega
      generalize uptoR x7 1099511627776 = U at *
      obtain ⟨tm, x8⟩ := U
      simp only at HH3 HT htb
      have hq2 := HQ1.out
      rw [HH3.out] at hq2
      simp only at hq2
      have HQ2 := Lib.hid hq2
      clear hq2 HQ1 HH3
      go_wp2_with fail
      refine HT.out.mono ?_
      rintro e w10 ⟨rfl, hrd10, hm10⟩
      have hs10 := hm10.size
      have h210 := (hm10.block w.heap.size (by omega) (by omega)).trans h29
      have h410 := (hm10.block (w.heap.size + 1) (by omega) (by omega)).trans h49
      have h610 := (hm10.block w7.heap.size (by omega) (by omega)).trans h69
      have hE10 : Ext w w10 := Below.trans hE9 (hm10.below (B := w.heap.size) (by omega) (by omega))
      go_upto_region 11 with (refine gate_op (p := .store 2 (.tmp 40) (.tmp 39)) rfl ?_; go_must (refine put_cell rfl 2 (.tmp 40) (.tmp 39) rfl w7.heap.size 5 (.int .i64 tm) rfl rfl rfl _ _ h610 size_i64 (show 5 < 7 by decide) ?_; intro w11 hp11))
      have hrd11 := hp11.rd hrd10 (HAr.out _ (by omega) (by omega)).1 (HAr.out _ (by omega) (by omega)).2
      have h211 := (hp11.block w.heap.size (by omega)).trans h210
      have h411 := (hp11.block (w.heap.size + 1) (by omega)).trans h410
      have hE11 := hp11.below hE10 (by omega)
      have hs11 := hp11.size
      have h611 : w11.heap[w7.heap.size]? = some (.cells #[.int .i64 ba, .int .i64 pi, .int .i64 ep, .int .i64 sq, .int .i64 kd, .int .i64 tm, .slice none 0 0] 24 (0, 0)) := hp11.obj
      have k5 := (cell_of h611 5).trans rfl
      have hok : ∀ l2, BtOk ⟨ba, pi, ep, sq, kd, tm, l2⟩ := fun l2 => ⟨⟨by simp only; omega, by simp only; omega⟩, ⟨by simp only; omega, by simp only; omega⟩, ⟨by simp only; omega, by simp only; omega⟩, ⟨by simp only; omega, by simp only; omega⟩, ⟨by simp only; omega, by simp only; omega⟩, ⟨by simp only; omega, by simp only; omega⟩⟩
      have Hok := Lib.hid hok
      clear hp11 hrd9 hE9 h29 h49 h69 hrd10 hm10 h210 h410 h610 hE10 hok HT
      have HEr := Lib.hid (rdErr_calls _ _ g A c x8 hrd11)
      obtain ⟨xb, xp, xe⟩ := x8
      simp only at HEr HQ2
      by_cases he0 : xe = 0
      · subst he0
        by_cases htm : 1099511627776 < tm
        · go_wp2_with fail
          refine HEr.out.mono ?_
          rintro e we ⟨rfl, rfl⟩
          have hqn : Q = none := by rw [HQ2.out, if_pos (.inr htm)]; rfl
          go_wp2_with (first
            | (refine gate_op (p := .load 24 (.tmp 4)) rfl ?_; go_must (refine wpList_load_row rfl 24 (.tmp 4) rfl (w.heap.size + 1) rfl _ #[.int .i64 0, .int .i64 0, .int .i64 0, .int .i64 0, .int .i64 0, .int .i64 0, .slice none 0 0] (0, 0) _ h411 Try.underlying24 rfl size_bt ?_))
            | (refine gate_op (p := .store 24 (.tmp 2) (.tmp 49)) rfl ?_; go_must (refine put_row rfl 24 (.tmp 2) (.tmp 49) rfl w.heap.size #[.int .i64 0, .int .i64 0, .int .i64 0, .int .i64 0, .int .i64 0, .int .i64 0, .slice none 0 0] rfl rfl _ _ h211 size_bt rfl (btC_one btNone none 0) ?_; intro wf hpf)))
          refine bodyPost_ret (results_row2 rfl _ _ w.heap.size _ _ _ _ rfl hpf.obj Try.underlying24 rfl size_bt) rfl ?_
          rw [hqn]
          exact dec_none (hpf.below hE11 (Nat.le_refl _))
        · have hq3 := HQ2.out
          rw [if_neg (by rintro (h | h); exact h rfl; exact htm h)] at hq3
          have HQ3 := Lib.hid hq3
          clear hq3 HQ2
          go_wp2_with (first
            | (go_at_call 60; refine HEr.out.mono ?_; rintro e we ⟨rfl, rfl⟩)
            | (refine gate_op (p := .load 24 (.tmp 6)) rfl ?_; go_must (refine wpList_load_row rfl 24 (.tmp 6) rfl w7.heap.size rfl _ (btC ⟨ba, pi, ep, sq, kd, tm, []⟩ none 0) (0, 0) _ h611 Try.underlying24 rfl size_bt ?_)))
          refine (mark_calls _ ⟨ba, pi, ep, sq, kd, tm, []⟩ none 0).mono ?_
          rintro e w12 ⟨rfl, hE12⟩
          have hrd12 := hrd11.ext hE12
          have hs12 := hE12.size
          have h212 := (hE12.block w.heap.size (by omega)).trans h211
          have h412 := (hE12.block (w.heap.size + 1) (by omega)).trans h411
          have h612 := (hE12.block w7.heap.size (by omega)).trans h611
          have hE12' := Ext.trans _ _ _ hE11 hE12
          clear HEr hrd11 h211 h411 h611 hE11 hE12 k5
          cases hmk : markB ⟨ba, pi, ep, sq, kd, tm, []⟩ with
          | true =>
            have hq4 := HQ3.out
            rw [hmk, if_pos rfl] at hq4
            have HQ4 := Lib.hid hq4
            have ho12 : Own recK 54 w12 (w7.heap.size + 1) (fun _ => False) (.slice none 0 0) [] := Own.nil _ _ _ _ _
            clear hq4 HQ3 hmk
            have HEn := Lib.hid (rdEnd_calls _ _ g A c ⟨xb, xp, 0⟩ hrd12)
            have hqf : Q = if (EndR ⟨xb, xp, 0⟩).err = 0 ∧ validE ⟨ba, pi, ep, sq, kd, tm, []⟩ = 0 then some ⟨ba, pi, ep, sq, kd, tm, []⟩ else none := HQ4.out
            have Hqf := Lib.hid hqf
            clear hqf
            generalize hEy : EndR ⟨xb, xp, 0⟩ = yf at *
            clear hEy
            obtain ⟨ybs, ypos, ef⟩ := yf
            simp only at Hqf HEn
            go_wp2_with fail
            refine HEn.out.mono ?_
            rintro e wf1 ⟨rfl, hrdf, hmf⟩
            have hsf := hmf.size
            have h2f := (hmf.block w.heap.size (by omega) (by omega)).trans h212
            have h4f := (hmf.block (w.heap.size + 1) (by omega) (by omega)).trans h412
            have h6f := (hmf.block w7.heap.size (by omega) (by omega)).trans h612
            have hEf : Ext w wf1 := Below.trans hE12' (hmf.below (B := w.heap.size) (by omega) (by omega))
            have hof := ho12.move (w' := wf1) (fun k hk => hmf.block k (ho12.at hk).2 ((fun k hk => by cases hk) k hk)) (fun _ h => h.elim)
            by_cases hef : ef = 0
            · subst hef
              have HVa := Lib.hid (Valid_calls wf1 wf1.heap.size (Nat.le_refl _) ⟨ba, pi, ep, sq, kd, tm, []⟩ none 0 (btAt_own (Hok.out []) hof))
              generalize hvE : validE ⟨ba, pi, ep, sq, kd, tm, []⟩ = vf at *
              clear hvE
              simp only [btC] at HVa
              obtain ⟨k0, k1, k2, k3, k4, k5, k6⟩ := (BtObj.cells (b := ⟨ba, pi, ep, sq, kd, tm, []⟩) ⟨h6f⟩)
              simp only at k0 k1 k2 k3 k4 k5 k6
              go_wp2_with fail
              refine HVa.out.mono ?_
              rintro e wf2 ⟨rfl, hEf2⟩
              have h2g := (hEf2.block w.heap.size (by omega)).trans h2f
              have h4g := (hEf2.block (w.heap.size + 1) (by omega)).trans h4f
              have h6g := (hEf2.block w7.heap.size (by omega)).trans h6f
              have hEg := Ext.trans _ _ _ hEf hEf2
              have hog := hof.below hEf2
              clear k0 k1 k2 k3 k4 k5 k6
              by_cases hvf : vf = 0
              · subst hvf
                have hqs : Q = some ⟨ba, pi, ep, sq, kd, tm, []⟩ := by rw [Hqf.out, if_pos (by simp)]
                go_wp2_with (first
                  | (refine gate_op (p := .load 24 (.tmp 6)) rfl ?_; go_must (refine wpList_load_row rfl 24 (.tmp 6) rfl w7.heap.size rfl _ (btC ⟨ba, pi, ep, sq, kd, tm, []⟩ none 0) (0, 0) _ h6g Try.underlying24 rfl size_bt ?_))
                  | (refine gate_op (p := .store 24 (.tmp 2) (.tmp 91)) rfl ?_; go_must (refine put_row rfl 24 (.tmp 2) (.tmp 91) rfl w.heap.size (btC ⟨ba, pi, ep, sq, kd, tm, []⟩ none 0) rfl rfl _ _ h2g size_bt rfl (btC_one _ _ _) ?_; intro wf hpf)))
                refine bodyPost_ret (results_row2 rfl _ _ w.heap.size _ _ _ _ rfl hpf.obj Try.underlying24 rfl size_bt) rfl ?_
                rw [hqs]
                exact ⟨⟨ba, pi, ep, sq, kd, tm, []⟩, none, 0, 0, rfl, (hpf.own hog (fun k hk => by have := (hog.at hk).1; omega) (fun _ h => h.elim)).lower (by omega), hpf.below hEg (Nat.le_refl _), rfl, rfl⟩
              · have hd : decide (vf = 0) = false := decide_eq_false hvf
                have hqn : Q = none := by rw [Hqf.out, if_neg (fun h => hvf h.2)]
                go_wp2_with (first
                  | (refine gate_op (p := .load 24 (.tmp 4)) rfl ?_; go_must (refine wpList_load_row rfl 24 (.tmp 4) rfl (w.heap.size + 1) rfl _ #[.int .i64 0, .int .i64 0, .int .i64 0, .int .i64 0, .int .i64 0, .int .i64 0, .slice none 0 0] (0, 0) _ h4g Try.underlying24 rfl size_bt ?_))
                  | (refine gate_op (p := .store 24 (.tmp 2) (.tmp 90)) rfl ?_; go_must (refine put_row rfl 24 (.tmp 2) (.tmp 90) rfl w.heap.size #[.int .i64 0, .int .i64 0, .int .i64 0, .int .i64 0, .int .i64 0, .int .i64 0, .slice none 0 0] rfl rfl _ _ h2g size_bt rfl (btC_one btNone none 0) ?_; intro wf hpf)))
                refine bodyPost_ret (results_row2 rfl _ _ w.heap.size _ _ _ _ rfl hpf.obj Try.underlying24 rfl size_bt) rfl ?_
                rw [hqn]
                exact dec_none (hpf.below hEg (Nat.le_refl _))
            · have hd : decide (ef = 0) = false := decide_eq_false hef
              have hqn : Q = none := by rw [Hqf.out, if_neg (fun h => hef h.1)]
              go_wp2_with (first
                | (refine gate_op (p := .load 24 (.tmp 4)) rfl ?_; go_must (refine wpList_load_row rfl 24 (.tmp 4) rfl (w.heap.size + 1) rfl _ #[.int .i64 0, .int .i64 0, .int .i64 0, .int .i64 0, .int .i64 0, .int .i64 0, .slice none 0 0] (0, 0) _ h4f Try.underlying24 rfl size_bt ?_))
                | (refine gate_op (p := .store 24 (.tmp 2) (.tmp 90)) rfl ?_; go_must (refine put_row rfl 24 (.tmp 2) (.tmp 90) rfl w.heap.size #[.int .i64 0, .int .i64 0, .int .i64 0, .int .i64 0, .int .i64 0, .int .i64 0, .slice none 0 0] rfl rfl _ _ h2f size_bt rfl (btC_one btNone none 0) ?_; intro wf hpf)))
              refine bodyPost_ret (results_row2 rfl _ _ w.heap.size _ _ _ _ rfl hpf.obj Try.underlying24 rfl size_bt) rfl ?_
              rw [hqn]
              exact dec_none (hpf.below hEf (Nat.le_refl _))
          | false =>
            have hq4 := HQ3.out
            rw [hmk, if_neg (by decide)] at hq4
            have HQ4 := Lib.hid hq4
            clear hq4 HQ3 hmk
            have HU := Lib.hid (upto_calls _ _ g A c _ hrd12 64 (by decide))
            have hnb : 0 ≤ (uptoR ⟨xb, xp, 0⟩ 64).1 ∧ (uptoR ⟨xb, xp, 0⟩ 64).1 ≤ 65 := by unfold uptoR; simp only; split <;> omega
            generalize uptoR ⟨xb, xp, 0⟩ 64 = U at *
            obtain ⟨nI, xn⟩ := U
            simp only at HQ4 HU hnb
            obtain ⟨N, rfl⟩ := Int.eq_ofNat_of_zero_le hnb.1
            simp only [Int.toNat_natCast] at HQ4
            go_wp2_with fail
            refine HU.out.mono ?_
            rintro e w13 ⟨rfl, hrd13, hm13⟩
            have hs13 := hm13.size
            have h213 := (hm13.block w.heap.size (by omega) (by omega)).trans h212
            have h413 := (hm13.block (w.heap.size + 1) (by omega) (by omega)).trans h412
            have h613 := (hm13.block w7.heap.size (by omega) (by omega)).trans h612
            have hE13 : Ext w w13 := Below.trans hE12' (hm13.below (B := w.heap.size) (by omega) (by omega))
            clear HU hrd12 h212 h412 h612 hE12' hm13
            by_cases h64 : 64 < (N : Int)
            · have h64d : (64 : Int) < (N : Int) := h64
              have hqn : Q = none := by rw [HQ4.out, if_pos h64]; rfl
              go_wp2_with (first
                | (refine gate_op (p := .load 24 (.tmp 4)) rfl ?_; go_must (refine wpList_load_row rfl 24 (.tmp 4) rfl (w.heap.size + 1) rfl _ #[.int .i64 0, .int .i64 0, .int .i64 0, .int .i64 0, .int .i64 0, .int .i64 0, .slice none 0 0] (0, 0) _ h413 Try.underlying24 rfl size_bt ?_))
                | (refine gate_op (p := .store 24 (.tmp 2) (.tmp 57)) rfl ?_; go_must (refine put_row rfl 24 (.tmp 2) (.tmp 57) rfl w.heap.size #[.int .i64 0, .int .i64 0, .int .i64 0, .int .i64 0, .int .i64 0, .int .i64 0, .slice none 0 0] rfl rfl _ _ h213 size_bt rfl (btC_one btNone none 0) ?_; intro wf hpf)))
              refine bodyPost_ret (results_row2 rfl _ _ w.heap.size _ _ _ _ rfl hpf.obj Try.underlying24 rfl size_bt) rfl ?_
              rw [hqn]
              exact dec_none (hpf.below hE13 (Nat.le_refl _))
            · have hq5 := HQ4.out
              rw [if_neg h64] at hq5
              have HQ5 := Lib.hid hq5
              clear hq5 HQ4
              have hgl13 := hrd13.lt
              have hfar13 := Lib.hid (fun ad (e : A = some ad) => (hrd13.far ad e).2.2)
              have hN : N ≤ 64 := by omega
              go_wp2_with fail
              go_loopw [8, 59] (fun a i wr => ∃ (ak : ByteArray) (lk : List Rc) (y : RdM) (Al : Option Addr) (cl : Nat), lk.length ≤ N ∧ i = .int .i64 (lk.length : Nat) ∧ a = .string ak ∧ ak.size ≤ 3000 ∧ Hid (readsR tm N xn ⟨#[]⟩ = match readsR tm (N - lk.length) y ak with | none => none | some (l2, z) => some (lk ++ l2, z)) ∧ RdAt wr w2.heap.size g A c y ∧ Own recK 54 wr w13.heap.size (fun _ => False) (.slice Al lk.length cl) lk ∧ Ext w wr ∧ w13.heap.size ≤ wr.heap.size ∧ wr.heap[w.heap.size]? = some (.cells #[.int .i64 0, .int .i64 0, .int .i64 0, .int .i64 0, .int .i64 0, .int .i64 0, .slice none 0 0] 24 (0, 0)) ∧ wr.heap[w.heap.size + 1]? = some (.cells #[.int .i64 0, .int .i64 0, .int .i64 0, .int .i64 0, .int .i64 0, .int .i64 0, .slice none 0 0] 24 (0, 0)) ∧ wr.heap[w7.heap.size]? = some (.cells #[.int .i64 ba, .int .i64 pi, .int .i64 ep, .int .i64 sq, .int .i64 kd, .int .i64 tm, .slice Al lk.length cl] 24 (0, 0))) (fun _ i _ => N - (intOf i).toNat)
              case atStart => exact ⟨⟨#[]⟩, [], xn, none, 0, Nat.zero_le _, rfl, rfl, Nat.zero_le _, Lib.hid (by rw [List.length_nil, Nat.sub_zero]; cases readsR tm N xn ⟨#[]⟩ <;> rfl), hrd13, Own.nil _ _ _ _ _, hE13, Nat.le_refl _, h213, h413, h613⟩
              case round =>
                obtain ⟨ak, lk, y, Al, cl, hlk, rfl, rfl, hak, Hre, hrdy, ho, hEr, hsr, h2r, h4r, h6r⟩ := hrel
                by_cases hlt : lk.length < N
                · have hb := readsR_bind hlt Hre.out
                  have Hb1 := Lib.hid hb.1
                  have Hb2 := Lib.hid hb.2
                  have Hrd := Lib.hid (read_calls wr _ g A c y hrdy tm (by omega) ak hak)
                  have hlt2 : (lk.length : Int) < (N : Int) := by omega
                  have hmeas := Lib.hid (@meas_up lk.length N hlt)
                  have k5 := (cell_of h6r 5).trans rfl
                  clear hb Hre
                  generalize readR y tm ak = R at *
                  go_wp2_with fail
                  refine Hrd.out.mono ?_
                  rintro e w14 ⟨r, ok, rfl, hm14, hsm, hmt⟩
                  have hs14 := hm14.size
                  have h214 := (hm14.block w.heap.size (by omega) (by omega)).trans h2r
                  have h414 := (hm14.block (w.heap.size + 1) (by omega) (by omega)).trans h4r
                  have h614 := (hm14.block w7.heap.size (by omega) (by omega)).trans h6r
                  have hE14 : Ext w w14 := Below.trans hEr (hm14.below (B := w.heap.size) (by omega) (by omega))
                  have ho14 := ho.move (w' := w14) (fun k hk => hm14.block k (ho.at hk).2 (by have := (ho.at hk).1; omega)) (fun _ h => h.elim)
                  obtain ⟨j1, j3, j4⟩ := one_new w14 (.cells #[.string r.1, .string r.2.1, .bool r.2.2.1, .int .i64 r.2.2.2] 54)
                  have h215 := (j3.block w.heap.size (by omega)).trans h214
                  have h415 := (j3.block (w.heap.size + 1) (by omega)).trans h414
                  have h615 := (j3.block w7.heap.size (by omega)).trans h614
                  have hE15 := Ext.trans _ _ _ hE14 j3
                  have ho15 := ho14.below j3
                  unfold recC
                  clear Hrd hrdy ho h2r h4r h6r hEr k5
                  cases R with
                  | none =>
                    have hok := (show ok = false from hmt)
                    subst hok
                    have hqn : Q = none := by rw [HQ5.out, Hb1.out rfl]; rfl
                    go_wp2_with (first
                      | (refine gate_op (p := .load 24 (.tmp 4)) rfl ?_; go_must (refine wpList_load_row rfl 24 (.tmp 4) rfl (w.heap.size + 1) rfl _ #[.int .i64 0, .int .i64 0, .int .i64 0, .int .i64 0, .int .i64 0, .int .i64 0, .slice none 0 0] (0, 0) _ h415 Try.underlying24 rfl size_bt ?_))
                      | (refine gate_op (p := .store 24 (.tmp 2) (.tmp 71)) rfl ?_; go_must (refine put_row rfl 24 (.tmp 2) (.tmp 71) rfl w.heap.size #[.int .i64 0, .int .i64 0, .int .i64 0, .int .i64 0, .int .i64 0, .int .i64 0, .slice none 0 0] rfl rfl _ _ h215 size_bt rfl (btC_one btNone none 0) ?_; intro wf hpf)))
                    refine bodyPost_ret (results_row2 rfl _ _ w.heap.size _ _ _ _ rfl hpf.obj Try.underlying24 rfl size_bt) rfl ?_
                    rw [hqn]
                    exact dec_none (hpf.below hE15 (Nat.le_refl _))
                  | some p =>
                    obtain ⟨r', y2⟩ := p
                    obtain ⟨hok, hr', hrd14⟩ := hmt
                    simp only at hr' hrd14
                    subst hok
                    subst hr'
                    have Hb3 := Lib.hid (Hb2.out r y2 rfl)
                    have hrd15 := hrd14.ext j3
                    obtain ⟨t1, t2, tE, ts⟩ := two_new w14 (.cells #[.string r.1, .string r.2.1, .bool r.2.2.1, .int .i64 r.2.2.2] 54) (.cells #[.string r.1, .string r.2.1, .bool r.2.2.1, .int .i64 r.2.2.2] 54)
                    have Hbx := Lib.hid (boxedN t2)
                    have hlt3 : ((lk ++ [r]).length : Int) = (lk.length : Int) + 1 := by rw [List.length_append]; rfl
                    have Hln := Lib.hid (show (lk ++ [r]).length = lk.length + 1 from by rw [List.length_append]; rfl)
                    have Hkr := Lib.hid (fun W F => recK_mk W F (r := r) (Nat.le_trans hsm.1 (by simp [maxLen])) (Nat.le_trans hsm.2.1 (by simp [maxLen])) hsm.2.2)
                    have hks := hsm.1
                    have c6 := (cell_of h615 6).trans rfl
                    have Ho15 := Lib.hid ho15
                    have Hat := Lib.hid (show (Value.slice Al lk.length cl).ownBlock ≠ some w14.heap.size from fun e => by have := (ho14.at e).2; omega)
                    clear hlt3 hsm t1 t2 tE ho15 ho14 h214 h414 h614 hE14 hrd14 hm14
                    go_wp2_with (first
                      | (at_builtin; go_must (refine app_onef recK flat_rec w13.heap.size rfl (.tmp 73) (.tmp 75) 22 54 48 rfl Try.underlying22 info_rec (.slice Al lk.length cl) lk r (w14.heap.size + 1) [.string r.1, .string r.2.1, .bool r.2.2.1, .int .i64 r.2.2.2] (fun _ => False) rfl rfl (Ho15.out.alloc _) Hbx.out (Hkr.out _ _) (by omega) (by simp only [maxLen]; omega) (by omega) ?_; intro v16 w16 ho16 hg16 ha16; obtain ⟨A6, c6b, e6, _, _⟩ := ho16.slice; subst e6; have hne16 : ∀ k, k < w13.heap.size → (Value.slice Al lk.length cl).ownBlock ≠ some k := fun k hk e => (by have := (Ho15.out.at e).1; omega); have h616 := (grown_old hg16 (k := w7.heap.size) (by omega) (hne16 _ (by omega))).trans h615; have h216 := (grown_old hg16 (k := w.heap.size) (by omega) (hne16 _ (by omega))).trans h215; have h416 := (grown_old hg16 (k := w.heap.size + 1) (by omega) (hne16 _ (by omega))).trans h415; have hj16 := (grown_old hg16 (k := w14.heap.size) (by omega) (Hat.out)).trans j1; have hs16 := hg16.size; have hrd16 := hrd13.grown hrd15 (by omega) hg16 (fun j hj => (Ho15.out.at hj).1); have hE16 : Ext w w16 := (Below.alloc hE15 hE15.size _).grown hg16 (by omega) (fun j hj => by have := (Ho15.out.at hj).1; omega); have Ho16 := Lib.hid ho16; clear ho16 hg16 ha16))
                      | (refine gate_op (p := .store 22 (.tmp 78) (.tmp 77)) rfl ?_; go_must (refine put_cell rfl 22 (.tmp 78) (.tmp 77) rfl w7.heap.size 6 (.slice A6 (lk.length + 1) c6b) rfl rfl rfl _ _ h616 size_sl (show 6 < 7 by decide) ?_; intro w17 hp17; have q0 := (cell_of ((hp17.block w14.heap.size (by omega)).trans hj16) 0).trans rfl)))
                    have hs17 := hp17.size
                    refine ⟨⟨r.1, lk ++ [r], y2, A6, c6b, by rw [Hln.out]; omega, by rw [Hln.out, Int.natCast_succ], rfl, hks, Lib.hid ?_, hp17.rd hrd16 (HAr.out _ (by omega) (by omega)).1 (HAr.out _ (by omega) (by omega)).2, hp17.own Ho16.out (fun k hk => by have := (Ho16.out.at hk).1; omega) (fun _ h => h.elim), hp17.below hE16 (by omega), by omega, (hp17.block w.heap.size (by omega)).trans h216, (hp17.block (w.heap.size + 1) (by omega)).trans h416, by rw [Hln.out]; exact hp17.obj⟩, hmeas.out⟩
                    rw [Hln.out]
                    exact Hb3.out
                · have hNe : lk.length = N := by omega
                  have hre := Hre.out
                  rw [hNe, Nat.sub_self, readsR] at hre
                  simp only [List.append_nil] at hre
                  have hq6 := HQ5.out
                  rw [hre] at hq6
                  simp only at hq6
                  have HQ6 := Lib.hid hq6
                  subst hNe
                  clear hq6 hre Hre HQ5
                  have hBok := Hok.out lk
                  have HEn := Lib.hid (rdEnd_calls _ _ g A c y hrdy)
                  have hqf : Q = if (EndR y).err = 0 ∧ validE ⟨ba, pi, ep, sq, kd, tm, lk⟩ = 0 then some ⟨ba, pi, ep, sq, kd, tm, lk⟩ else none := HQ6.out
                  have Hqf := Lib.hid hqf
                  clear hqf
                  generalize hEy : EndR y = yf at *
                  clear hEy
                  obtain ⟨ybs, ypos, ef⟩ := yf
                  simp only at Hqf HEn
                  go_wp2_with fail
                  refine HEn.out.mono ?_
                  rintro e wf1 ⟨rfl, hrdf, hmf⟩
                  have hsf := hmf.size
                  have h2f := (hmf.block w.heap.size (by omega) (by omega)).trans h2r
                  have h4f := (hmf.block (w.heap.size + 1) (by omega) (by omega)).trans h4r
                  have h6f := (hmf.block w7.heap.size (by omega) (by omega)).trans h6r
                  have hEf : Ext w wf1 := Below.trans hEr (hmf.below (B := w.heap.size) (by omega) (by omega))
                  have hof := ho.move (w' := wf1) (fun k hk => hmf.block k (ho.at hk).2 ((fun k hk => by have := (ho.at hk).1; omega) k hk)) (fun _ h => h.elim)
                  by_cases hef : ef = 0
                  · subst hef
                    have HVa := Lib.hid (Valid_calls wf1 wf1.heap.size (Nat.le_refl _) ⟨ba, pi, ep, sq, kd, tm, lk⟩ Al cl (btAt_own hBok hof))
                    generalize hvE : validE ⟨ba, pi, ep, sq, kd, tm, lk⟩ = vf at *
                    clear hvE
                    simp only [btC] at HVa
                    obtain ⟨k0, k1, k2, k3, k4, k5, k6⟩ := (BtObj.cells (b := ⟨ba, pi, ep, sq, kd, tm, lk⟩) ⟨h6f⟩)
                    simp only at k0 k1 k2 k3 k4 k5 k6
                    go_wp2_with fail
                    refine HVa.out.mono ?_
                    rintro e wf2 ⟨rfl, hEf2⟩
                    have h2g := (hEf2.block w.heap.size (by omega)).trans h2f
                    have h4g := (hEf2.block (w.heap.size + 1) (by omega)).trans h4f
                    have h6g := (hEf2.block w7.heap.size (by omega)).trans h6f
                    have hEg := Ext.trans _ _ _ hEf hEf2
                    have hog := hof.below hEf2
                    clear k0 k1 k2 k3 k4 k5 k6
                    by_cases hvf : vf = 0
                    · subst hvf
                      have hqs : Q = some ⟨ba, pi, ep, sq, kd, tm, lk⟩ := by rw [Hqf.out, if_pos (by simp)]
                      go_wp2_with (first
                        | (refine gate_op (p := .load 24 (.tmp 6)) rfl ?_; go_must (refine wpList_load_row rfl 24 (.tmp 6) rfl w7.heap.size rfl _ (btC ⟨ba, pi, ep, sq, kd, tm, lk⟩ Al cl) (0, 0) _ h6g Try.underlying24 rfl size_bt ?_))
                        | (refine gate_op (p := .store 24 (.tmp 2) (.tmp 91)) rfl ?_; go_must (refine put_row rfl 24 (.tmp 2) (.tmp 91) rfl w.heap.size (btC ⟨ba, pi, ep, sq, kd, tm, lk⟩ Al cl) rfl rfl _ _ h2g size_bt rfl (btC_one _ _ _) ?_; intro wf hpf)))
                      refine bodyPost_ret (results_row2 rfl _ _ w.heap.size _ _ _ _ rfl hpf.obj Try.underlying24 rfl size_bt) rfl ?_
                      rw [hqs]
                      exact ⟨⟨ba, pi, ep, sq, kd, tm, lk⟩, Al, cl, 0, rfl, (hpf.own hog (fun k hk => by have := (hog.at hk).1; omega) (fun _ h => h.elim)).lower (by omega), hpf.below hEg (Nat.le_refl _), rfl, rfl⟩
                    · have hd : decide (vf = 0) = false := decide_eq_false hvf
                      have hqn : Q = none := by rw [Hqf.out, if_neg (fun h => hvf h.2)]
                      go_wp2_with (first
                        | (refine gate_op (p := .load 24 (.tmp 4)) rfl ?_; go_must (refine wpList_load_row rfl 24 (.tmp 4) rfl (w.heap.size + 1) rfl _ #[.int .i64 0, .int .i64 0, .int .i64 0, .int .i64 0, .int .i64 0, .int .i64 0, .slice none 0 0] (0, 0) _ h4g Try.underlying24 rfl size_bt ?_))
                        | (refine gate_op (p := .store 24 (.tmp 2) (.tmp 90)) rfl ?_; go_must (refine put_row rfl 24 (.tmp 2) (.tmp 90) rfl w.heap.size #[.int .i64 0, .int .i64 0, .int .i64 0, .int .i64 0, .int .i64 0, .int .i64 0, .slice none 0 0] rfl rfl _ _ h2g size_bt rfl (btC_one btNone none 0) ?_; intro wf hpf)))
                      refine bodyPost_ret (results_row2 rfl _ _ w.heap.size _ _ _ _ rfl hpf.obj Try.underlying24 rfl size_bt) rfl ?_
                      rw [hqn]
                      exact dec_none (hpf.below hEg (Nat.le_refl _))
                  · have hd : decide (ef = 0) = false := decide_eq_false hef
                    have hqn : Q = none := by rw [Hqf.out, if_neg (fun h => hef h.1)]
                    go_wp2_with (first
                      | (refine gate_op (p := .load 24 (.tmp 4)) rfl ?_; go_must (refine wpList_load_row rfl 24 (.tmp 4) rfl (w.heap.size + 1) rfl _ #[.int .i64 0, .int .i64 0, .int .i64 0, .int .i64 0, .int .i64 0, .int .i64 0, .slice none 0 0] (0, 0) _ h4f Try.underlying24 rfl size_bt ?_))
                      | (refine gate_op (p := .store 24 (.tmp 2) (.tmp 90)) rfl ?_; go_must (refine put_row rfl 24 (.tmp 2) (.tmp 90) rfl w.heap.size #[.int .i64 0, .int .i64 0, .int .i64 0, .int .i64 0, .int .i64 0, .int .i64 0, .slice none 0 0] rfl rfl _ _ h2f size_bt rfl (btC_one btNone none 0) ?_; intro wf hpf)))
                    refine bodyPost_ret (results_row2 rfl _ _ w.heap.size _ _ _ _ rfl hpf.obj Try.underlying24 rfl size_bt) rfl ?_
                    rw [hqn]
                    exact dec_none (hpf.below hEf (Nat.le_refl _))
      · have hd0 : decide (xe = 0) = false := decide_eq_false he0
        go_wp2_with fail
        refine HEr.out.mono ?_
        rintro e we ⟨rfl, rfl⟩
        have hqn : Q = none := by rw [HQ2.out, if_pos (.inl he0)]; rfl
        go_wp2_with (first
          | (refine gate_op (p := .load 24 (.tmp 4)) rfl ?_; go_must (refine wpList_load_row rfl 24 (.tmp 4) rfl (w.heap.size + 1) rfl _ #[.int .i64 0, .int .i64 0, .int .i64 0, .int .i64 0, .int .i64 0, .int .i64 0, .slice none 0 0] (0, 0) _ h411 Try.underlying24 rfl size_bt ?_))
          | (refine gate_op (p := .store 24 (.tmp 2) (.tmp 49)) rfl ?_; go_must (refine put_row rfl 24 (.tmp 2) (.tmp 49) rfl w.heap.size #[.int .i64 0, .int .i64 0, .int .i64 0, .int .i64 0, .int .i64 0, .int .i64 0, .slice none 0 0] rfl rfl _ _ h211 size_bt rfl (btC_one btNone none 0) ?_; intro wf hpf)))
        refine bodyPost_ret (results_row2 rfl _ _ w.heap.size _ _ _ _ rfl hpf.obj Try.underlying24 rfl size_bt) rfl ?_
        rw [hqn]
        exact dec_none (hpf.below hE11 (Nat.le_refl _))
  ·
    have hne : decide (v = 1) = false := decide_eq_false hv1
    have hqn : Q = none := by rw [HQ.out, if_pos hv1]; rfl
    go_wp2_with (first
      | (refine gate_op (p := .load 24 (.tmp 4)) rfl ?_; go_must (refine wpList_load_row rfl 24 (.tmp 4) rfl (w.heap.size + 1) rfl _ #[.int .i64 0, .int .i64 0, .int .i64 0, .int .i64 0, .int .i64 0, .int .i64 0, .slice none 0 0] (0, 0) _ h44 Try.underlying24 rfl size_bt ?_))
      | (refine gate_op (p := .store 24 (.tmp 2) (.tmp 18)) rfl ?_; go_must (refine put_row rfl 24 (.tmp 2) (.tmp 18) rfl w.heap.size #[.int .i64 0, .int .i64 0, .int .i64 0, .int .i64 0, .int .i64 0, .int .i64 0, .slice none 0 0] rfl rfl _ _ h24 size_bt rfl (btC_one btNone none 0) ?_; intro wf hpf)))
    refine bodyPost_ret (results_row2 rfl _ _ w.heap.size _ _ _ _ rfl hpf.obj Try.underlying24 rfl size_bt) rfl ?_
    rw [hqn]
    exact dec_none (hpf.below hE4 (Nat.le_refl _))
end Go.Proofs.Ytaomhedjamnloaa
