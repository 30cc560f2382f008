/- Contract: the document's Decode (begun). -/
import Derived.Test.YtaomhedjamnloaaRecN
import Derived.Test.YtaomhedjamnloaaRecL
import Derived.Test.YtaomhedjamnloaaRecG
set_option linter.unusedVariables false
set_option linter.unusedSimpArgs false
namespace Go.Proofs.Ytaomhedjamnloaa
open Go Go.RowKit

/-- The reader of a row that is read. -/
theorem qAt_new {w w1 : World} {A : Option Addr} {c : Nat} {l : List UInt8} (hr : Row kb w (fun k => ∃ a, A = some a ∧ k = a.block) A l) (hc : l.length ≤ c) (hm : c ≤ maxLen) (hl : l.length ≤ 1099511627776) (hf : ∀ a, A = some a → a.block < w.heap.size) (hE : Ext w w1) :
    QAt (w1.alloc (.cells #[.slice A l.length c, .int .i64 0, .int .i64 0] 97)) w.heap.size w1.heap.size A c ⟨l, 0, 0⟩ := by
  have hs := hE.size
  obtain ⟨h1, h2, h3⟩ := one_new w1 (.cells #[.slice A l.length c, .int .i64 0, .int .i64 0] 97)
  refine ⟨hs, h1, Nat.zero_le _, hc, hm, hl, fun a ha => ?_, ?_⟩
  · have := hf a ha
    exact ⟨by omega, by omega⟩
  · exact (hr.belowF (fun k hk => by obtain ⟨a, e, rfl⟩ := hk; exact hf a e) hE).belowF (fun k hk => by obtain ⟨a, e, rfl⟩ := hk; have := hf a e; omega) h2
def go3 (er tm : Int) (mk : Bool) : Bool := decide (er = 0) && (decide (0 ≤ tm) && !mk)
theorem go3_tm {er tm : Int} {mk : Bool} (h : go3 er tm mk = true) : 0 ≤ tm := by
  unfold go3 at h
  simp only [Bool.and_eq_true, decide_eq_true_eq] at h
  exact h.2.1
theorem ByteR_range (x : RdM) : 0 ≤ (ByteR x).1 ∧ (ByteR x).1 ≤ 255 := by
  unfold ByteR
  split
  · split
    · simp
    · have := (x.bs.getD x.pos 0).toNat_lt
      simp only
      omega
  · simp
theorem parse_parts {l : List UInt8} {k0 kd ba pi ep sq tm : Int} {y1 y2 y3 y4 y5 y6 y7 : RdM} {mk mk2 : Bool} {lk : List Rc}
    (h1 : (k0, y1) = ByteR ⟨l, 0, 0⟩ ∧ (kd, y2) = ByteR y1 ∧ (ba, y3) = smallR y2 ∧ (pi, y4) = smallR y3)
    (h2 : (ep, y5) = if 0 < pi then smallR y4 else (0, y4)) (hm : mk = markB ⟨ba, pi, ep, 0, kd, 0, []⟩)
    (h3 : (sq, y6) = if both2 (decide (0 < pi)) mk = true then smallR y5 else (0, y5)) (h4 : (tm, y7) = smallR y6)
    (hm2 : mk2 = markB ⟨ba, pi, ep, sq, kd, tm, []⟩) (h5 : lk = if go3 y7.err tm mk2 = true then recordsR y7 tm else []) : parseR l = ⟨ba, pi, ep, sq, kd, tm, lk⟩ := by
  obtain ⟨ha, hb, hc, hd⟩ := h1
  have e1 : (kd == 2 || kd == 3) = mk := by rw [hm]; rfl
  have e2 : mk2 = mk := by rw [hm, hm2]; rfl
  have hp : pheadR y1 = (⟨ba, pi, ep, sq, kd, tm, []⟩, y7) := by
    unfold pheadR
    simp only [← hb, ← hc, ← hd, ← h2, e1]
    have e3 : (if 0 < pi ∧ mk = false then smallR y5 else (0, y5)) = (sq, y6) := by
      rw [h3]
      unfold both2
      by_cases h0 : 0 < pi <;> cases mk <;> simp [h0]
    simp only [e3, ← h4]
  unfold parseR
  simp only [← ha, hp]
  rw [h5, e2]
  have e4 : markB ⟨ba, pi, ep, sq, kd, tm, []⟩ = mk := by rw [← e2, hm2]
  simp only [e4]
  unfold go3
  by_cases g1 : y7.err = 0 <;> by_cases g2 : 0 ≤ tm <;> cases mk <;> simp [g1, g2]
theorem parse_ok {l : List UInt8} {k0 kd ba pi ep sq tm : Int} {y1 y2 y3 y4 y5 y6 y7 : RdM} {mk : Bool} {lk : List Rc}
    (h1 : (k0, y1) = ByteR ⟨l, 0, 0⟩ ∧ (kd, y2) = ByteR y1 ∧ (ba, y3) = smallR y2 ∧ (pi, y4) = smallR y3)
    (h2 : (ep, y5) = if 0 < pi then smallR y4 else (0, y4))
    (h3 : (sq, y6) = if both2 (decide (0 < pi)) mk = true then smallR y5 else (0, y5)) (h4 : (tm, y7) = smallR y6) : BtOk ⟨ba, pi, ep, sq, kd, tm, lk⟩ := by
  obtain ⟨ha, hb, hc, hd⟩ := h1
  have r1 := ByteR_range y1
  rw [← hb] at r1
  have r2 := smallR_range y2
  rw [← hc] at r2
  have r3 := smallR_range y3
  rw [← hd] at r3
  have r4 : -1 ≤ ep ∧ ep ≤ 2199023255552 := by
    split at h2
    · have r := smallR_range y4
      rw [← h2] at r
      exact r
    · injection h2 with h2 _
      omega
  have r5 : -1 ≤ sq ∧ sq ≤ 2199023255552 := by
    split at h3
    · have r := smallR_range y5
      rw [← h3] at r
      exact r
    · injection h3 with h3 _
      omega
  have r6 := smallR_range y6
  rw [← h4] at r6
  simp only at r1 r2 r3 r6
  exact ⟨⟨by simp only; omega, by simp only; omega⟩, ⟨by simp only; omega, by simp only; omega⟩, ⟨by simp only; omega, by simp only; omega⟩, ⟨by simp only; omega, by simp only; omega⟩, ⟨by simp only; omega, by simp only; omega⟩, ⟨by simp only; omega, by simp only; omega⟩⟩
/-- The world while it decodes: the reader at g, the batch at h, the result's cell untouched. -/
structure DSt (w W : World) (g h : Nat) (A : Option Addr) (c : Nat) (y : RdM) (cs : Array Value) : Prop where
  q : QAt W w.heap.size g A c y
  res : W.heap[w.heap.size]? = some (.cells #[.int .i64 0, .int .i64 0, .int .i64 0, .int .i64 0, .int .i64 0, .int .i64 0, .slice none 0 0] 24 (0, 0))
  bt : W.heap[h]? = some (.cells cs 24 (0, 0))
  ext : Ext w W
  g0 : w.heap.size < g
  gh : g < h
  far : ∀ a, A = some a → a.block < w.heap.size
theorem DSt.hlt {w W : World} {g h : Nat} {A : Option Addr} {c : Nat} {y : RdM} {cs : Array Value} (d : DSt w W g h A c y cs) : h < W.heap.size := (Array.getElem?_eq_some_iff.1 d.bt).1
theorem DSt.call {w W W' : World} {g h : Nat} {A : Option Addr} {c : Nat} {y y' : RdM} {cs : Array Value} (d : DSt w W g h A c y cs) (hq : QAt W' w.heap.size g A c y') (hm : Mut g W W') : DSt w W' g h A c y' cs := by
  have h1 := d.hlt
  have h2 := d.g0
  have h3 := d.gh
  have h4 := d.ext.size
  exact ⟨hq, (hm.block _ (by omega) (by omega)).trans d.res, (hm.block _ h1 (by omega)).trans d.bt, Below.trans d.ext (hm.below (B := w.heap.size) (by omega) (by omega)), h2, h3, d.far⟩
theorem DSt.ext' {w W W' : World} {g h : Nat} {A : Option Addr} {c : Nat} {y : RdM} {cs : Array Value} (d : DSt w W g h A c y cs) (hE : Ext W W') : DSt w W' g h A c y cs :=
  ⟨d.q.ext hE, (hE.block _ (by have := d.hlt; have := d.g0; have := d.gh; omega)).trans d.res, (hE.block _ d.hlt).trans d.bt, Ext.trans _ _ _ d.ext hE, d.g0, d.gh, d.far⟩
theorem DSt.put {w W W' : World} {g h : Nat} {A : Option Addr} {c : Nat} {y : RdM} {cs cs' : Array Value} (d : DSt w W g h A c y cs) (hp : PutAt h (.cells cs' 24 (0, 0)) W W') : DSt w W' g h A c y cs' := by
  have h1 := d.hlt
  have h2 := d.g0
  have h3 := d.gh
  exact ⟨d.q.move (by rw [hp.size]; exact Nat.le_refl _) (fun k hk hor => hp.block k (by
    rcases hor with e | ⟨a, e, e2⟩
    · omega
    · have := d.far a e
      omega)), (hp.block _ (by omega)).trans d.res, hp.obj, hp.below d.ext (by omega), h2, h3, d.far⟩
set_option maxRecDepth 8000 in
set_option maxHeartbeats 1600000 in
theorem Rdecode_calls (A : Option Addr) (c : Nat) (l : List UInt8) (w : World) (hl : l.length ≤ 1000000000) (hc : l.length ≤ c) (hm : c ≤ maxLen) (hf : ∀ a, A = some a → a.block < w.heap.size) (hr : Row kb w (fun k => ∃ a, A = some a ∧ k = a.block) A l) :
    Calls Try.prog 21 #[.slice A l.length c] w (DecPost w (rdecB l)) := by
  obtain ⟨h2, hE2, hs2⟩ := one_new w (.cells (btC btNone none 0) 24)
  unfold btC btNone at h2 hE2 hs2
  simp only [List.length_nil] at h2 hE2 hs2
  have Hn := Lib.hid (qAt_new hr hc hm (by omega) hf hE2)
  obtain ⟨Q, hQ⟩ : ∃ q, q = rdecB l := ⟨_, rfl⟩
  rw [← hQ]
  have HQ := Lib.hid hQ
  have Hsz := Lib.hid hs2
  clear hQ hs2
  go_enter Try.func21, Try.ntmps21
  go_upto_region 1 with fail
  generalize hw2 : w.alloc _ = w2 at *
  clear hw2
  go_upto_region 2 with fail
  have hq3 := Hn.out
  have hs2 := Hsz.out
  have h23 := ((one_new w2 (.cells #[.slice A l.length c, .int .i64 0, .int .i64 0] 97)).2.1.block w.heap.size (by omega)).trans h2
  have hE3 := Ext.trans _ _ _ hE2 (one_new w2 (.cells #[.slice A l.length c, .int .i64 0, .int .i64 0] 97)).2.1
  generalize hw3 : w2.alloc _ = w3 at *
  clear hw3 Hn
  have hgs : w.heap.size < w2.heap.size := by omega
  generalize w2.heap.size = g at *
  clear hs2 Hsz
  obtain ⟨⟨k0, y1⟩, hK0⟩ : ∃ p, p = ByteR ⟨l, 0, 0⟩ := ⟨_, rfl⟩
  obtain ⟨⟨kd, y2⟩, hK⟩ : ∃ p, p = ByteR y1 := ⟨_, rfl⟩
  obtain ⟨⟨ba, y3⟩, hB⟩ : ∃ p, p = smallR y2 := ⟨_, rfl⟩
  obtain ⟨⟨pi, y4⟩, hP⟩ : ∃ p, p = smallR y3 := ⟨_, rfl⟩
  have Hb1 := Lib.hid (qByte_calls w3 _ g A c _ hq3)
  rw [← hK0] at Hb1
  have Hb2 := Lib.hid (show ∀ W, QAt W w.heap.size g A c y1 → Calls Try.prog 63 #[.pointer (some ⟨g, 0, none⟩)] W (QPost W w.heap.size g A c y2 (.int .i64 kd)) from fun W hq => by
    have := qByte_calls W w.heap.size g A c y1 hq
    rw [← hK] at this
    exact this)
  have Hs1 := Lib.hid (show ∀ W, QAt W w.heap.size g A c y2 → Calls Try.prog 64 #[.pointer (some ⟨g, 0, none⟩)] W (QPost W w.heap.size g A c y3 (.int .i64 ba)) from fun W hq => by
    have := qSmall_calls W w.heap.size g A c y2 hq
    rw [← hB] at this
    exact this)
  have Hs2 := Lib.hid (show ∀ W, QAt W w.heap.size g A c y3 → Calls Try.prog 64 #[.pointer (some ⟨g, 0, none⟩)] W (QPost W w.heap.size g A c y4 (.int .i64 pi)) from fun W hq => by
    have := qSmall_calls W w.heap.size g A c y3 hq
    rw [← hP] at this
    exact this)
  have Hgs := Lib.hid (show _ ∧ _ ∧ _ ∧ _ from ⟨hK0, hK, hB, hP⟩)
  clear hK0 hK hB hP
  simp only at Hb1
  go_wp2_with fail
  refine Hb1.out.mono ?_
  rintro e w4 ⟨rfl, hq4, hm4⟩
  go_wp2_with fail
  refine (Hb2.out w4 hq4).mono ?_
  rintro e w5 ⟨rfl, hq5, hm5⟩
  have hm35 := hm4.trans hm5
  have h25 := (hm35.block w.heap.size (by have := hE3.size; have := hq3.lt; omega) (by omega)).trans h23
  have hE5 : Ext w w5 := Below.trans hE3 (hm35.below (B := w.heap.size) (by omega) (by have := hq3.lt; omega))
  have hg5 := hq5.lt
  clear h2 h23 hE2 hE3 hq3 hm4 hm5 hq4 hm35
  go_upto_region 4 with (refine gate_op (p := .store 24 (.tmp 5) (.tmp 15)) rfl ?_; go_must (refine put_row rfl 24 (.tmp 5) (.tmp 15) rfl w5.heap.size #[.int .i64 0, .int .i64 0, .int .i64 0, .int .i64 0, .int .i64 kd, .int .i64 0, .slice none 0 0] rfl rfl _ _ (one_new _ _).1 size_bt rfl (btC_one ⟨0, 0, 0, 0, kd, 0, []⟩ none 0) ?_; intro w6 hp6; have hE6 : Ext w5 w6 := hp6.below (one_new _ _).2.1 (Nat.le_refl _); have D6 := Lib.hid (DSt.mk (w := w) (hq5.ext hE6) ((hE6.block _ (by omega)).trans h25) hp6.obj (Ext.trans _ _ _ hE5 hE6) hgs hg5 hf); clear hp6 hE6))
  clear hq5 h25 hE5
  generalize w5.heap.size = b at *
  go_wp2_with fail
  refine (Hs1.out w6 D6.out.q).mono ?_
  rintro e w7 ⟨rfl, hq7, hm7⟩
  have D7 := Lib.hid (D6.out.call hq7 hm7)
  clear hq7 hm7 D6
  go_upto_region 5 with (refine gate_op (p := .store 2 (.tmp 18) (.tmp 17)) rfl ?_; go_must (refine put_cell rfl 2 (.tmp 18) (.tmp 17) rfl b 0 (.int .i64 ba) rfl rfl rfl _ _ D7.out.bt size_i64 (show 0 < 7 by decide) ?_; intro w8 hp8; have D8 := Lib.hid (show DSt w w8 g b A c y3 #[.int .i64 ba, .int .i64 0, .int .i64 0, .int .i64 0, .int .i64 kd, .int .i64 0, .slice none 0 0] from D7.out.put hp8); clear hp8))
  clear D7
  go_wp2_with fail
  refine (Hs2.out w8 D8.out.q).mono ?_
  rintro e w9 ⟨rfl, hq9, hm9⟩
  have D9 := Lib.hid (D8.out.call hq9 hm9)
  clear hq9 hm9 D8
  go_upto_region 6 with (refine gate_op (p := .store 2 (.tmp 21) (.tmp 20)) rfl ?_; go_must (refine put_cell rfl 2 (.tmp 21) (.tmp 20) rfl b 1 (.int .i64 pi) rfl rfl rfl _ _ D9.out.bt size_i64 (show 1 < 7 by decide) ?_; intro w10 hp10; have D10 := Lib.hid (show DSt w w10 g b A c y4 #[.int .i64 ba, .int .i64 pi, .int .i64 0, .int .i64 0, .int .i64 kd, .int .i64 0, .slice none 0 0] from D9.out.put hp10); clear hp10))
  clear D9
  have k1 := (cell_of D10.out.bt 1).trans rfl
  obtain ⟨⟨ep, y5⟩, hEp⟩ : ∃ p, p = (if 0 < pi then smallR y4 else (0, y4)) := ⟨_, rfl⟩
  have HEp := Lib.hid hEp
  have Hs3 := Lib.hid (show 0 < pi → ∀ W, QAt W w.heap.size g A c y4 → Calls Try.prog 64 #[.pointer (some ⟨g, 0, none⟩)] W (QPost W w.heap.size g A c y5 (.int .i64 ep)) from fun h0 W hq => by
    have := qSmall_calls W w.heap.size g A c y4 hq
    rw [if_pos h0] at hEp
    rw [← hEp] at this
    exact this)
  have Hep0 := Lib.hid (show ¬ 0 < pi → ep = 0 ∧ y5 = y4 from fun h0 => by
    rw [if_neg h0] at hEp
    injection hEp with h1 h2
    exact ⟨h1, h2⟩)
  clear hEp
  go_upto_if 24 with fail
  go_cut [24] (fun v wx => v = .bool (decide (0 < pi)) ∧ DSt w wx g b A c y5 #[.int .i64 ba, .int .i64 pi, .int .i64 ep, .int .i64 0, .int .i64 kd, .int .i64 0, .slice none 0 0])
  case first =>
    by_cases h0 : 0 < pi
    · have Hs4 := Lib.hid (Hs3.out h0)
      have hd0 : decide (0 < pi) = true := decide_eq_true h0
      clear k1
      go_wp2_with fail
      refine (Hs4.out w10 D10.out.q).mono ?_
      rintro e w11 ⟨rfl, hq11, hm11⟩
      have D11 := Lib.hid (D10.out.call hq11 hm11)
      clear hq11 hm11 D10
      go_wp2_with (refine gate_op (p := .store 3 (.tmp 27) (.tmp 26)) rfl ?_; go_must (refine put_cell rfl 3 (.tmp 27) (.tmp 26) rfl b 2 (.int .i64 ep) rfl rfl rfl _ _ D11.out.bt size_int (show 2 < 7 by decide) ?_; intro w12 hp12; have D12 := Lib.hid (show DSt w w12 g b A c y5 #[.int .i64 ba, .int .i64 pi, .int .i64 ep, .int .i64 0, .int .i64 kd, .int .i64 0, .slice none 0 0] from D11.out.put hp12); clear hp12))
      go_meet
      exact ⟨by simp [h0], D12.out⟩
    · obtain ⟨e1, e2⟩ := Hep0.out h0
      have hd0 : decide (0 < pi) = false := decide_eq_false h0
      have DD := Lib.hid (show DSt w w10 g b A c y5 #[.int .i64 ba, .int .i64 pi, .int .i64 ep, .int .i64 0, .int .i64 kd, .int .i64 0, .slice none 0 0] from by rw [e1, e2]; exact D10.out)
      clear e1 e2
      go_wp2
      go_meet
      exact ⟨by simp [h0], DD.out⟩
  case rest =>
    obtain ⟨rfl, hD⟩ := hcut
    have D13 := Lib.hid hD
    clear hD D10 k1 Hs3 Hep0
    have k0' := (cell_of D13.out.bt 0).trans rfl
    have k1 := (cell_of D13.out.bt 1).trans rfl
    have k2 := (cell_of D13.out.bt 2).trans rfl
    have k3 := (cell_of D13.out.bt 3).trans rfl
    have k4 := (cell_of D13.out.bt 4).trans rfl
    have k5 := (cell_of D13.out.bt 5).trans rfl
    have k6 := (cell_of D13.out.bt 6).trans rfl
    have Hmk := Lib.hid (fun W => Rmark_calls W ⟨ba, pi, ep, 0, kd, 0, []⟩ none 0)
    unfold btC at Hmk
    simp only [List.length_nil] at Hmk
    obtain ⟨mk, hmk⟩ : ∃ mk, mk = markB ⟨ba, pi, ep, 0, kd, 0, []⟩ := ⟨_, rfl⟩
    rw [← hmk] at Hmk
    have HMK := Lib.hid hmk
    clear hmk
    go_upto_region 8 with fail
    go_cut [35] (fun v wx => v = .bool (both2 (decide (0 < pi)) mk) ∧ DSt w wx g b A c y5 #[.int .i64 ba, .int .i64 pi, .int .i64 ep, .int .i64 0, .int .i64 kd, .int .i64 0, .slice none 0 0])
    case first =>
      by_cases h0 : 0 < pi
      · go_wp2_with fail
        refine (Hmk.out _).mono ?_
        rintro e w14 ⟨rfl, hE14⟩
        have D14 := Lib.hid (D13.out.ext' hE14)
        go_wp2
        go_meet
        exact ⟨by rw [decide_eq_true h0]; rfl, D14.out⟩
      · have hd0 : decide (0 < pi) = false := decide_eq_false h0
        go_wp2
        go_meet
        exact ⟨by rw [decide_eq_false (by omega : ¬ 0 < pi)]; rfl, D13.out⟩
    case rest =>
      obtain ⟨rfl, hD⟩ := hcut
      have D15 := Lib.hid hD
      clear hD D13 k0' k1 k2 k3 k4 k5 k6
      obtain ⟨⟨sq, y6⟩, hSq⟩ : ∃ p, p = (if both2 (decide (0 < pi)) mk = true then smallR y5 else (0, y5)) := ⟨_, rfl⟩
      have HSq := Lib.hid hSq
      have Hs5 := Lib.hid (show both2 (decide (0 < pi)) mk = true → ∀ W, QAt W w.heap.size g A c y5 → Calls Try.prog 64 #[.pointer (some ⟨g, 0, none⟩)] W (QPost W w.heap.size g A c y6 (.int .i64 sq)) from fun h0 W hq => by
        have := qSmall_calls W w.heap.size g A c y5 hq
        rw [if_pos h0] at hSq
        rw [← hSq] at this
        exact this)
      have Hsq0 := Lib.hid (show both2 (decide (0 < pi)) mk = false → sq = 0 ∧ y6 = y5 from fun h0 => by
        rw [h0, if_neg (by decide)] at hSq
        injection hSq with h1 h2
        exact ⟨h1, h2⟩)
      clear hSq
      go_upto_if 35 with fail
      go_cut [35] (fun v wx => v = .bool (both2 (decide (0 < pi)) mk) ∧ DSt w wx g b A c y6 #[.int .i64 ba, .int .i64 pi, .int .i64 ep, .int .i64 sq, .int .i64 kd, .int .i64 0, .slice none 0 0])
      case first =>
        go_wp2_with fail
        · have h0 : both2 (decide (0 < pi)) mk = true := by assumption
          refine (Hs5.out h0 _ D15.out.q).mono ?_
          rintro e w17 ⟨rfl, hq17, hm17⟩
          have D17 := Lib.hid (D15.out.call hq17 hm17)
          clear hq17 hm17 D15
          go_wp2_with (refine gate_op (p := .store 3 (.tmp 38) (.tmp 37)) rfl ?_; go_must (refine put_cell rfl 3 (.tmp 38) (.tmp 37) rfl b 3 (.int .i64 sq) rfl rfl rfl _ _ D17.out.bt size_int (show 3 < 7 by decide) ?_; intro w18 hp18; have D18 := Lib.hid (show DSt w w18 g b A c y6 #[.int .i64 ba, .int .i64 pi, .int .i64 ep, .int .i64 sq, .int .i64 kd, .int .i64 0, .slice none 0 0] from D17.out.put hp18); clear hp18))
          go_meet
          exact ⟨by rw [h0], D18.out⟩
        · have h0 : both2 (decide (0 < pi)) mk = false := by assumption
          obtain ⟨e1, e2⟩ := Hsq0.out h0
          have DD := Lib.hid (show DSt w wc g b A c y6 #[.int .i64 ba, .int .i64 pi, .int .i64 ep, .int .i64 sq, .int .i64 kd, .int .i64 0, .slice none 0 0] from by rw [e1, e2]; exact D15.out)
          clear e1 e2
          go_meet
          exact ⟨by rw [h0], DD.out⟩
      case rest =>
        obtain ⟨rfl, hD⟩ := hcut
        have D19 := Lib.hid hD
        clear hD D15 Hs5 Hsq0
        obtain ⟨⟨tm, y7⟩, hTm⟩ : ∃ p, p = smallR y6 := ⟨_, rfl⟩
        have HTm := Lib.hid hTm
        have Hs6 := Lib.hid (show ∀ W, QAt W w.heap.size g A c y6 → Calls Try.prog 64 #[.pointer (some ⟨g, 0, none⟩)] W (QPost W w.heap.size g A c y7 (.int .i64 tm)) from fun W hq => by
          have := qSmall_calls W w.heap.size g A c y6 hq
          rw [← hTm] at this
          exact this)
        have htmr : tm ≤ 2199023255552 := by
          have := (smallR_range y6).2
          rw [← hTm] at this
          exact this
        clear hTm
        go_wp2_with fail
        refine (Hs6.out _ D19.out.q).mono ?_
        rintro e w20 ⟨rfl, hq20, hm20⟩
        have D20 := Lib.hid (D19.out.call hq20 hm20)
        clear hq20 hm20 D19
        go_upto_region 11 with (refine gate_op (p := .store 2 (.tmp 41) (.tmp 40)) rfl ?_; go_must (refine put_cell rfl 2 (.tmp 41) (.tmp 40) rfl b 5 (.int .i64 tm) rfl rfl rfl _ _ D20.out.bt size_i64 (show 5 < 7 by decide) ?_; intro w21 hp21; have D21 := Lib.hid (show DSt w w21 g b A c y7 #[.int .i64 ba, .int .i64 pi, .int .i64 ep, .int .i64 sq, .int .i64 kd, .int .i64 tm, .slice none 0 0] from D20.out.put hp21); clear hp21))
        clear D20
        go_simp
        have kE := D21.out.q.cells.2.2
        have k0' := (cell_of D21.out.bt 0).trans rfl
        have k1 := (cell_of D21.out.bt 1).trans rfl
        have k2 := (cell_of D21.out.bt 2).trans rfl
        have k3 := (cell_of D21.out.bt 3).trans rfl
        have k4 := (cell_of D21.out.bt 4).trans rfl
        have k5 := (cell_of D21.out.bt 5).trans rfl
        have k6 := (cell_of D21.out.bt 6).trans rfl
        have Hmk2 := Lib.hid (fun W => Rmark_calls W ⟨ba, pi, ep, sq, kd, tm, []⟩ none 0)
        unfold btC at Hmk2
        simp only [List.length_nil] at Hmk2
        obtain ⟨mk2, hmk2⟩ : ∃ mk2, mk2 = markB ⟨ba, pi, ep, sq, kd, tm, []⟩ := ⟨_, rfl⟩
        rw [← hmk2] at Hmk2
        have HMK2 := Lib.hid hmk2
        clear hmk2
        go_cut [56] (fun v wx => v = .bool (go3 y7.err tm mk2) ∧ DSt w wx g b A c y7 #[.int .i64 ba, .int .i64 pi, .int .i64 ep, .int .i64 sq, .int .i64 kd, .int .i64 tm, .slice none 0 0])
        case first =>
          by_cases h0 : y7.err = 0
          · have he : (y7.err == 0) = true := by rw [h0]; rfl
            have Hg := Lib.hid (show go3 y7.err tm mk2 = (decide (0 ≤ tm) && !mk2) from by unfold go3; rw [decide_eq_true h0]; rfl)
            clear h0
            by_cases h1 : 0 ≤ tm
            · have Hg2 := Lib.hid (show go3 y7.err tm mk2 = !mk2 from by rw [Hg.out, decide_eq_true h1]; rfl)
              go_wp2_with fail
              refine (Hmk2.out _).mono ?_
              rintro e w22 ⟨rfl, hE22⟩
              have D22 := Lib.hid (D21.out.ext' hE22)
              go_wp2
              go_meet
              exact ⟨by rw [Hg2.out], D22.out⟩
            · have hd1 : decide (0 ≤ tm) = false := decide_eq_false h1
              have Hg2 := Lib.hid (show go3 y7.err tm mk2 = false from by rw [Hg.out, hd1]; rfl)
              go_wp2
              go_meet
              exact ⟨by rw [Hg2.out], D21.out⟩
          · have he : (y7.err == 0) = false := by rw [beq_eq_false_iff_ne]; exact h0
            have Hg2 := Lib.hid (show go3 y7.err tm mk2 = false from by unfold go3; rw [decide_eq_false h0]; rfl)
            clear h0
            go_wp2
            go_meet
            exact ⟨by rw [Hg2.out], D21.out⟩
        case rest =>
          obtain ⟨rfl, hD⟩ := hcut
          have D23 := Lib.hid hD
          clear hD D21 kE k0' k1 k2 k3 k4 k5 k6
          have Hrec := Lib.hid (fun (h : go3 y7.err tm mk2 = true) => qRecords_calls wc w.heap.size g A c y7 D23.out.q tm ⟨go3_tm h, htmr⟩)
          have k5 := (cell_of D23.out.bt 5).trans rfl
          go_upto_if 56 with fail
          go_cut [56] (fun v wx => v = .bool (go3 y7.err tm mk2) ∧ ∃ (Al : Option Addr) (cl : Nat) (lk : List Rc) (y8 : RdM), Hid (lk = if go3 y7.err tm mk2 = true then recordsR y7 tm else []) ∧ DSt w wx g b A c y8 #[.int .i64 ba, .int .i64 pi, .int .i64 ep, .int .i64 sq, .int .i64 kd, .int .i64 tm, .slice Al lk.length cl] ∧ Own recK 54 wx (w.heap.size + 1) (fun _ => False) (.slice Al lk.length cl) lk)
          case first =>
            go_wp2_with fail
            · have h0 : go3 y7.err tm mk2 = true := by assumption
              refine (Hrec.out h0).mono ?_
              rintro e w24 ⟨v, y8, rfl, ho24, hq24, hm24⟩
              obtain ⟨Al, cl, e4, _, _⟩ := ho24.slice
              subst e4
              have D24 := Lib.hid (D23.out.call hq24 hm24)
              have hbl := D23.out.hlt
              have hws := D23.out.ext.size
              have hws1 : w.heap.size + 1 ≤ wc.heap.size := by have := D23.out.g0; have := D23.out.gh; omega
              clear hq24 hm24 D23 Hrec k5
              obtain ⟨rs, hrs⟩ : ∃ rs, rs = recordsR y7 tm := ⟨_, rfl⟩
              rw [← hrs] at ho24
              have Hrs := Lib.hid hrs
              rw [← hrs]
              clear hrs
              go_wp2_with (refine gate_op (p := .store 22 (.tmp 61) (.tmp 60)) rfl ?_; go_must (refine put_cell rfl 22 (.tmp 61) (.tmp 60) rfl b 6 (.slice Al rs.length cl) rfl rfl rfl _ _ D24.out.bt size_sl (show 6 < 7 by decide) ?_; intro w25 hp25; have D25 := Lib.hid (And.intro (show DSt w w25 g b A c y8 #[.int .i64 ba, .int .i64 pi, .int .i64 ep, .int .i64 sq, .int .i64 kd, .int .i64 tm, .slice Al rs.length cl] from D24.out.put hp25) ((hp25.own ho24 (fun k hk => by have := (ho24.at hk).1; omega) (fun _ h => h.elim)).lower hws1)); clear hp25))
              go_meet
              exact ⟨by rw [h0], Al, cl, rs, y8, Lib.hid (by rw [if_pos h0, Hrs.out]), D25.out.1, D25.out.2⟩
            · have h0 : go3 y7.err tm mk2 = false := by assumption
              go_meet
              exact ⟨by rw [h0], none, 0, [], y7, Lib.hid (by rw [h0, if_neg (by decide)]), D23.out, Own.nil _ _ _ _ _⟩
          case rest =>
            obtain ⟨rfl, Al, cl, lk, y8, Hlk, hD, hol⟩ := hcut
            have hokb : BtOk ⟨ba, pi, ep, sq, kd, tm, lk⟩ := parse_ok Hgs.out HEp.out HSq.out HTm.out
            have Hpar := Lib.hid (parse_parts Hgs.out HEp.out HMK.out HSq.out HTm.out HMK2.out Hlk.out)
            have hws := hD.ext.size
            have hbt := btAt_own hokb (b := ⟨ba, pi, ep, sq, kd, tm, lk⟩) hol
            have hek := Rencode_calls wc wc.heap.size (Nat.le_refl _) _ Al cl hbt
            unfold EncPost btC at hek
            simp only at hek
            have Hek := Lib.hid hek
            have D26 := Lib.hid (And.intro hD hol)
            have k0' := (cell_of hD.bt 0).trans rfl
            have k1 := (cell_of hD.bt 1).trans rfl
            have k2 := (cell_of hD.bt 2).trans rfl
            have k3 := (cell_of hD.bt 3).trans rfl
            have k4 := (cell_of hD.bt 4).trans rfl
            have k5 := (cell_of hD.bt 5).trans rfl
            have k6 := (cell_of hD.bt 6).trans rfl
            clear hek hbt hD hol D23 Hrec
            go_wp2_with fail
            refine Hek.out.mono ?_
            rintro e w27 ⟨v, rfl, ho27, hE27⟩
            have hE27w := Ext.trans _ _ _ D26.out.1.ext hE27
            have hres27 := (D26.out.1.ext' hE27).res
            obtain ⟨er, her⟩ : ∃ er, er = validE ⟨ba, pi, ep, sq, kd, tm, lk⟩ := ⟨_, rfl⟩
            have Her := Lib.hid her
            rw [← her]
            clear her Hek k0' k1 k2 k3 k4 k5 k6
            obtain ⟨A9, c9, e9, l9, m9, hr9⟩ := ho27.sl
            subst e9
            by_cases h0 : er = 0
            · subst h0
              have hrb := hr.belowF (fun k hk => by obtain ⟨a, e, rfl⟩ := hk; exact hf a e) hE27w
              obtain ⟨L9, hL9⟩ : ∃ L, L = encOf ⟨ba, pi, ep, sq, kd, tm, lk⟩ := ⟨_, rfl⟩
              rw [← hL9] at hr9 l9
              rw [← hL9]
              have HL9 := Lib.hid hL9
              have hbt27 := (D26.out.1.ext' hE27).bt
              have HoB := Lib.hid (D26.out.2.below hE27)
              clear hL9 ho27
              have hcv9 := conv_str (hr9) 31 9 5 c9 Try.underlying31 Try.underlying5 Try.underlying9
              have hcvb := conv_str (hrb) 31 9 5 c Try.underlying31 Try.underlying5 Try.underlying9
              by_cases hq : L9 = l
              · have hne : ((⟨L9.toArray⟩ : ByteArray) != ⟨l.toArray⟩) = false := by rw [bytes_ne]; simp [hq]
                have hne2 : (L9 == l) = true := by simpa using hq
                have hne3 : (!L9 == l) = false := by rw [hne2]; rfl
                have hqs : Q = some ⟨ba, pi, ep, sq, kd, tm, lk⟩ := by
                  rw [HQ.out]
                  unfold rdecB
                  rw [Hpar.out, if_pos ⟨Her.out.symm, ((if_pos Her.out.symm : encOf _ = encB _).symm.trans (HL9.out.symm.trans hq))⟩]
                have Hqs := Lib.hid hqs
                clear hq hqs
                have k0 := (cell_of hbt27 0).trans rfl
                have k1 := (cell_of hbt27 1).trans rfl
                have k2 := (cell_of hbt27 2).trans rfl
                have k3 := (cell_of hbt27 3).trans rfl
                have k4 := (cell_of hbt27 4).trans rfl
                have k5 := (cell_of hbt27 5).trans rfl
                have k6 := (cell_of hbt27 6).trans rfl
                clear hbt27
                go_wp2_with (refine gate_op (p := .store 24 (.tmp 2) (.tmp 77)) rfl ?_; go_must (refine put_row rfl 24 (.tmp 2) (.tmp 77) rfl w.heap.size #[.int .i64 ba, .int .i64 pi, .int .i64 ep, .int .i64 sq, .int .i64 kd, .int .i64 tm, .slice Al lk.length cl] rfl rfl _ _ hres27 size_bt rfl (btC_one ⟨ba, pi, ep, sq, kd, tm, lk⟩ Al cl) ?_; intro wf hpf))
                refine bodyPost_ret (results_row2 rfl _ _ w.heap.size _ _ _ _ rfl hpf.obj Try.underlying24 rfl size_bt) rfl ?_
                rw [Hqs.out]
                exact ⟨⟨ba, pi, ep, sq, kd, tm, lk⟩, Al, cl, 0, rfl, (hpf.own HoB.out (fun k hk => by have := (HoB.out.at hk).1; omega) (fun _ h => h.elim)).lower (by omega), hpf.below hE27w (Nat.le_refl _), rfl, rfl⟩
              · have hne : ((⟨L9.toArray⟩ : ByteArray) != ⟨l.toArray⟩) = true := by rw [bytes_ne]; simp [hq]
                have hne2 : (L9 == l) = false := by simpa using hq
                have hne3 : (!L9 == l) = true := by rw [hne2]; rfl
                have hqn : Q = none := by
                  rw [HQ.out]
                  unfold rdecB
                  rw [Hpar.out, if_neg (fun h => hq (HL9.out.trans ((if_pos h.1 : encOf _ = encB _).trans h.2)))]
                have Hqn := Lib.hid hqn
                clear hq hqn
                go_wp2_with (refine gate_op (p := .store 24 (.tmp 2) (.tmp 76)) rfl ?_; go_must (refine put_row rfl 24 (.tmp 2) (.tmp 76) rfl w.heap.size #[.int .i64 0, .int .i64 0, .int .i64 0, .int .i64 0, .int .i64 0, .int .i64 0, .slice none 0 0] rfl rfl _ _ hres27 size_bt rfl (btC_one btNone none 0) ?_; intro wf hpf))
                refine bodyPost_ret (results_row2 rfl _ _ w.heap.size _ _ _ _ rfl hpf.obj Try.underlying24 rfl size_bt) rfl ?_
                rw [Hqn.out]
                exact dec_none (hpf.below hE27w (Nat.le_refl _))
            · have hd : decide (er = 0) = false := decide_eq_false h0
              have hd2 : (er == 0) = false := by rw [beq_eq_false_iff_ne]; exact h0
              have hd3 : (er != 0) = true := by simpa using h0
              have hqn : Q = none := by
                rw [HQ.out]
                unfold rdecB
                rw [Hpar.out, if_neg (fun h => h0 (Her.out.trans h.1))]
              clear h0
              go_wp2_with (refine gate_op (p := .store 24 (.tmp 2) (.tmp 76)) rfl ?_; go_must (refine put_row rfl 24 (.tmp 2) (.tmp 76) rfl w.heap.size #[.int .i64 0, .int .i64 0, .int .i64 0, .int .i64 0, .int .i64 0, .int .i64 0, .slice none 0 0] rfl rfl _ _ hres27 size_bt rfl (btC_one btNone none 0) ?_; intro wf hpf))
              refine bodyPost_ret (results_row2 rfl _ _ w.heap.size _ _ _ _ rfl hpf.obj Try.underlying24 rfl size_bt) rfl ?_
              rw [hqn]
              exact dec_none (hpf.below hE27w (Nat.le_refl _))
end Go.Proofs.Ytaomhedjamnloaa
