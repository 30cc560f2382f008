/- RecReads: the walk of the law. -/
import Derived.Test.YtaomhedjamnloaaRecK
import Derived.Test.YtaomhedjamnloaaRecO
import Derived.Test.YtaomhedjamnloaaLawBytes
import Derived.Test.YtaomhedjamnloaaRecCut
set_option linter.unusedVariables false
set_option linter.unusedSimpArgs false
namespace Go.Proofs.Ytaomhedjamnloaa
open Go Go.RowKit

theorem xorb (a b : UInt8) : bits .xor .u8 (a.toNat : Int) (b.toNat : Int) = ((a ^^^ b).toNat : Int) := by
  unfold bits
  have h : ∀ x : UInt8, BitVec.ofInt 8 (x.toNat : Int) = x.toBitVec := by
    intro x
    apply BitVec.eq_of_toNat_eq
    rw [BitVec.toNat_ofInt]
    have := x.toNat_lt
    simp
    omega
  simp only [IntKind.bits, h]
  rw [IntKind.wrap_u8]
  have := (a ^^^ b).toNat_lt
  show ((a.toBitVec ^^^ b.toBitVec).toNat : Int) % 256 = _
  have e : (a.toBitVec ^^^ b.toBitVec).toNat = (a ^^^ b).toNat := rfl
  rw [e]
  omega

theorem tmod_parts (x : Int) (m : Nat) (h : 0 < m) : ∃ p : Nat, p < m ∧ ((x.tmod (m : Int) = -(p : Int) ∧ 0 < p) ∨ x.tmod (m : Int) = (p : Int)) := by
  have e1 := Int.tmod_lt_of_pos x (show (0 : Int) < m by omega)
  have e2 := Int.lt_tmod_of_pos x (show (0 : Int) < m by omega)
  by_cases hx : x.tmod m < 0
  · exact ⟨(-(x.tmod m)).toNat, by omega, .inl ⟨by omega, by omega⟩⟩
  · exact ⟨(x.tmod m).toNat, by omega, .inr (by omega)⟩
theorem encOf_cut {b : BtM} {n : Nat} (hn : n < (encOf b).length) : decB ((encOf b).take n) = none := by
  unfold encOf at *
  split at hn
  · rename_i h
    rw [if_pos h]
    exact decB_cut h hn
  · exact absurd hn (Nat.not_lt_zero _)
theorem row_self {w : World} {F : Nat → Prop} {A : Option Addr} {l : List UInt8} (h : Row kb w F A l) : Row kb w (fun k => ∃ a, A = some a ∧ k = a.block) A l := by
  obtain ⟨cs, hc, hr⟩ := h
  refine ⟨cs, ?_, hr⟩
  rcases hc with h | ⟨ad, e, hf, hcell⟩
  · exact .inl h
  · exact .inr ⟨ad, e, ⟨ad, e, rfl⟩, hcell⟩
theorem own_lt {α : Type} {d : Kd α} {e : TypeId} {w : World} {B : Nat} {F : Nat → Prop} {A : Option Addr} {n c : Nat} {xs : List α} (h : Own d e w B F (.slice A n c) xs) {a : Addr} (ha : A = some a) : a.block < w.heap.size := by
  subst ha
  obtain ⟨cs, ⟨h1, h2⟩, hr⟩ := h
  rcases h2 with ⟨h2, _⟩ | ⟨g, cap, cur, hv, hg, hh, rest⟩
  · cases h2
  · injection hv with hv
    injection hv with hv
    subst hv
    exact (Array.getElem?_eq_some_iff.1 hh).1
theorem validE_ok {b : BtM} (hv : validE b = 0) : BtOk b := by
  have hf := (validE_iff b).1 hv
  have g1 := hf.nums.base
  have g2 := hf.nums.pid
  have g3 := hf.nums.epoch
  have g4 := hf.nums.seq
  have g5 := hf.nums.kind
  have g6 := hf.nums.time
  exact ⟨⟨by omega, by omega⟩, ⟨by omega, by omega⟩, ⟨by omega, by omega⟩, ⟨by omega, by omega⟩, ⟨by omega, by omega⟩, ⟨by omega, by omega⟩⟩
theorem zero_ok : BtOk btNone := ⟨⟨by decide, by decide⟩, ⟨by decide, by decide⟩, ⟨by decide, by decide⟩, ⟨by decide, by decide⟩, ⟨by decide, by decide⟩, ⟨by decide, by decide⟩⟩
set_option maxRecDepth 8000 in
set_option maxHeartbeats 1600000 in
theorem RecReads_calls (b0 : BtM) (A0 : Option Addr) (c0 : Nat) (at_ : Int) (by_ : UInt8) (Am : Option Addr) (cm : Nat) (more : List UInt8) (w : World) (h : BtAt w w.heap.size b0 A0 c0) (ha : -9223372036854775808 ≤ at_ ∧ at_ ≤ 9223372036854775807)
    (hcm : more.length ≤ cm) (hmm : cm ≤ maxLen) (hrm : Row kb w (fun k => k < w.heap.size) Am more) (hA : ∀ a, Am = some a → a.block < w.heap.size) :
    Calls Try.prog 4 #[.agg (btC b0 A0 c0), .int .i64 at_, .int .u8 (by_.toNat : Int), .slice Am more.length cm] w fun e w' => e = .returned (.bool true) ∧ Below w.heap.size w w' := by
  obtain ⟨h1, h2, h3⟩ := one_new w (.cells (btC b0 A0 c0) 24)
  have Hcut := Lib.hid (cut3_calls _ w.heap.size (by omega) b0 A0 c0 (h.below h2))
  have Hmore := Lib.hid (fun W (hE : Ext w W) => (hrm.belowF (fun _ hk => hk) hE))
  have HA := Lib.hid hA
  clear h hrm hA
  go_enter Try.func4, Try.ntmps4
  unfold btC at *
  go_upto_region 1 with fail
  generalize w.alloc _ = w1 at *
  have k0 := (cell_of h1 0).trans rfl
  have k1 := (cell_of h1 1).trans rfl
  have k2 := (cell_of h1 2).trans rfl
  have k3 := (cell_of h1 3).trans rfl
  have k4 := (cell_of h1 4).trans rfl
  have k5 := (cell_of h1 5).trans rfl
  have k6 := (cell_of h1 6).trans rfl
  go_wp2_with fail
  refine Hcut.out.mono ?_
  rintro e w2 ⟨b, hok, A, c, rfl, ho, hE2⟩
  have hs2 := hE2.size
  clear k0 k1 k2 k3 k4 k5 k6 h1 Hcut
  have Hra := Lib.hid (Rencode_calls w2 w2.heap.size (Nat.le_refl _) b A c (btAt_own hok.ok ho))
  have hL := encOf_len b
  have Hct := Lib.hid (fun n => @encOf_cut b n)
  clear ho hok
  unfold EncPost btC at Hra
  generalize encOf b = L at *
  generalize validE b = vb at *
  go_wp2_with fail
  refine Hra.out.mono ?_
  rintro e w3 ⟨v3, rfl, ho3, hE3⟩
  have hEw3 := Ext.trans _ _ _ h2 (Ext.trans _ _ _ hE2 hE3)
  have ho3 := ho3.lower (show w.heap.size ≤ w2.heap.size by omega)
  obtain ⟨A3, c3, e3, l3, m3⟩ := ho3.slice
  subst e3
  clear Hra hE2 hE3 h2 hs2 h3
  go_upto_if 28 with fail
  go_cut [3] (fun v wx => w3 = wx ∧ ∃ m : Nat, m ≤ 60 ∧ m ≤ more.length ∧ v = .slice Am m cm)
  case first =>
    by_cases h60 : 60 < more.length
    · have h60i : (60 : Int) < (more.length : Int) := by omega
      have hsl := fun W => slice_to (P := Try.prog) 31 5 Try.underlying31 (by kernel_rfl) Am more.length cm 60 (by omega) (by omega) W .i64
      go_wp2
      go_meet
      exact ⟨rfl, 60, by omega, by omega, rfl⟩
    · have h60i : ¬ (60 : Int) < (more.length : Int) := by omega
      go_wp2
      go_meet
      exact ⟨rfl, more.length, by omega, by omega, rfl⟩
  case rest =>
    obtain ⟨rfl, m, hm60, hml, rfl⟩ := hcut
    obtain ⟨M, hM⟩ : ∃ M, M = more.take m := ⟨_, rfl⟩
    have hMl : M.length = m := by rw [hM, List.length_take]; omega
    have HM := Lib.hid (fun W (hE : Ext w W) => show Row kb W (fun k => k < w.heap.size) Am M from by rw [hM]; exact (Hmore.out W hE).take m)
    subst hMl
    clear hM Hmore
    go_upto_if 33 with fail
    go_cut [9] (fun v wx => ∃ (Ar : Option Addr) (cr : Nat) (Lr : List UInt8), v = .slice Ar Lr.length cr ∧ Lr.length ≤ 200000 ∧ Own kb 5 wx w.heap.size (fun _ => False) (.slice Ar Lr.length cr) Lr ∧ Ext w wx)
    case first =>
      by_cases h0 : 0 < L.length
      · have h0i : (0 : Int) < (L.length : Int) := by omega
        obtain ⟨p, hp, hpe⟩ := tmod_parts at_ L.length h0
        have hzd : ((L.length : Int) == 0) = false := by rw [beq_eq_false_iff_ne]; omega
        go_upto_if 39 with fail
        go_cut [1] (fun v wx => w3 = wx ∧ v = .int .i64 (p : Int))
        case first =>
          rcases hpe with ⟨hpe, hp0⟩ | hpe
          · go_wp2
            all_goals go_meet
            all_goals exact ⟨rfl, by first | rfl | rw [hpe]⟩
          · go_wp2
            all_goals go_meet
            all_goals exact ⟨rfl, by first | rfl | rw [hpe]⟩
        case rest =>
          obtain ⟨rfl, rfl⟩ := hcut
          clear hpe hzd h0i
          have hsl := fun W => slice_to (P := Try.prog) 31 5 Try.underlying31 (by kernel_rfl) A3 L.length c3 (p : Int) (by omega) (by omega) W .i64
          rw [Int.toNat_natCast] at hsl
          obtain ⟨A3', c3', e3, _, _, hr3⟩ := ho3.sl
          injection e3 with e4 e5 e6
          subst e4; subst e6
          have hat3 := fun k (hk : (Value.slice A3 L.length c3).ownBlock = some k) => (ho3.at hk).2
          have hr3' := (hr3.mono (G := fun k => k < w3.heap.size) fun k hk => hat3 k (hk.resolve_left id)).take p
          have htl : (L.take p).length = p := by rw [List.length_take]; omega
          have hdc := Decode_calls A3 c3 (L.take p) _ w3 (by omega) (by omega) m3 (fun _ h => h) hr3'
          rw [Hct.out p hp, htl] at hdc
          have Hdc := Lib.hid hdc
          clear hdc hr3 hr3' hat3 htl Hct
          go_wp2_with fail
          refine Hdc.out.mono ?_
          rintro e w4 ⟨x4, A4, c4, er4, rfl, ho4, hE4, rfl, rfl⟩
          clear Hdc
          unfold btC
          go_upto_region 9 with (refine gate_op (p := .store 24 (.tmp 11) (.tmp 47)) rfl ?_; go_must (refine put_row rfl 24 (.tmp 11) (.tmp 47) rfl w4.heap.size (btC btNone A4 c4) rfl rfl _ _ (one_new _ _).1 size_bt rfl (btC_one _ _ _) ?_; intro w5 hp5; have hE5 : Ext w4 w5 := hp5.below (one_new _ _).2.1 (Nat.le_refl _); have ho5 := hp5.own (ho4.below (one_new w4 _).2.1) (fun k hk => by have := (ho4.at hk).2; omega) (fun _ h => h.elim); have H5 := Lib.hid (And.intro hE5 (And.intro ho5 hp5.obj)); clear hE5 ho5 hp5))
          obtain ⟨hE45, ho5, hj5⟩ := H5.out
          have Hs := Lib.hid (Rsame_calls w5 w5.heap.size (Nat.le_refl _) btNone btNone A4 none c4 0 (btAt_own zero_ok ho5) (btAt_nil w5 zero_ok rfl))
          rw [same_self] at Hs
          unfold btC btNone at Hs
          unfold btC btNone at hj5
          simp only [List.length_nil] at Hs hj5
          have k0 := (cell_of hj5 0).trans rfl
          have k1 := (cell_of hj5 1).trans rfl
          have k2 := (cell_of hj5 2).trans rfl
          have k3 := (cell_of hj5 3).trans rfl
          have k4 := (cell_of hj5 4).trans rfl
          have k5 := (cell_of hj5 5).trans rfl
          have k6 := (cell_of hj5 6).trans rfl
          have hE35 := Ext.trans _ _ _ hE4 hE45
          clear hj5 ho5 ho4 H5
          go_wp2_with fail
          refine Hs.out.mono ?_
          rintro e w6 ⟨rfl, hE6⟩
          have hE36 := Ext.trans _ _ _ hE35 hE6
          clear k0 k1 k2 k3 k4 k5 k6 Hs hE4 hE45 hE35 hE6
          have ho6 := ho3.below hE36
          have hE6 := Ext.trans _ _ _ hEw3 hE36
          obtain ⟨g, c', u, e3, hg, hc, ⟨hu, _⟩, hf, hset⟩ := ho6.put1 rfl p hp
          cases e3
          have hst := Lib.hid (hset (L[p] ^^^ by_) (.int .u8 (L[p] ^^^ by_).toNat) (fun _ _ => ⟨rfl, trivial⟩) (fun _ h => h.elim))
          have hsb := Lib.hid (show Ext w _ from Below.setCell hE6 (p := ⟨g, p, none⟩) (show w.heap.size ≤ g by omega) (.int .u8 (L[p] ^^^ by_).toNat))
          have hx := xorb L[p] by_
          simp only [List.cons.injEq, and_true] at hu
          subst hu
          have Hsl := Lib.hid (show (L.set p (L[p] ^^^ by_)).length = L.length from List.length_set)
          generalize L.set p (L[p] ^^^ by_) = s at *
          generalize L[p] = z at *
          go_wp2
          go_meet
          exact ⟨_, c3, s, by rw [Hsl.out], by rw [Hsl.out]; exact hL, by rw [Hsl.out]; exact hst.out, hsb.out⟩
      · have h0i : ¬ (0 : Int) < (L.length : Int) := by omega
        go_wp2
        go_meet
        exact ⟨A3, c3, L, rfl, hL, ho3, hEw3⟩
    case rest =>
      obtain ⟨Ar, cr, Lr, rfl, hLr, hor, hEr⟩ := hcut
      clear Hct ho3 hEw3 l3 m3 hL
      go_wp2_with fail
      go_loopw [9, 13] (fun v i wr => ∃ (k : Nat) (A : Option Addr) (cx : Nat) (X : List UInt8), k ≤ 3 ∧ i = .int .i64 k ∧ v = .slice A X.length cx ∧ X.length ≤ cx ∧ cx ≤ maxLen ∧ X.length ≤ 200060 ∧ Row kb wr (fun k => k < wr.heap.size) A X ∧ Hid (∀ a, A = some a → a.block < wr.heap.size) ∧ Hid (k = 0 → X.length ≤ 200000 ∧ Own kb 5 wr w.heap.size (fun _ => False) (.slice A X.length cx) X) ∧ Ext w wr) (fun _ i _ => 3 - (intOf i).toNat)
      case atStart =>
        obtain ⟨A', c', e', l', m', r'⟩ := hor.sl
        injection e' with e4 e5 e6
        subst e4; subst e6
        exact ⟨0, Ar, cr, Lr, by omega, rfl, rfl, l', m', by omega, r'.mono fun k hk => (hor.at (hk.resolve_left id)).2, Lib.hid (fun a e => own_lt hor e), Lib.hid (fun _ => ⟨hLr, hor⟩), hEr⟩
      case round =>
        obtain ⟨k, A, cx, X, hk, rfl, rfl, hXc, hcx, hXl, hX, HF, HO, hE⟩ := hrel
        by_cases hlt : k < 3
        -- BEGIN
        · have hlti : (k : Int) < 3 := by omega
          have HX := Lib.hid (fun W (hE' : Ext wr W) => hX.belowF (fun _ h => h) hE')
          have Hd := Lib.hid (Decode_calls A cx X _ wr (by omega) hXc hcx (fun _ h => h) hX)
          have Hrd := Lib.hid (fun W (hE' : Ext wr W) => Rdecode_calls A cx X W (by omega) hXc hcx (fun a e => Nat.lt_of_lt_of_le (HF.out a e) hE'.size) (row_self (HX.out W hE')))
          rw [rdecB_eq] at Hrd
          have Hsm := Lib.hid (fun b => @decB_some X b)
          clear hX
          cases hd : decB X with
          | none =>
            rw [hd] at Hd Hrd
            clear hd
            go_wp2_with fail
            refine Hd.out.mono ?_
            rintro e w2 ⟨x2, A2, c2, er2, rfl, ho2, hE2, rfl, rfl⟩
            unfold btC
            go_upto_region 16 with (refine gate_op (p := .store 24 (.tmp 14) (.tmp 71)) rfl ?_; go_must (refine put_row rfl 24 (.tmp 14) (.tmp 71) rfl w2.heap.size (btC btNone A2 c2) rfl rfl _ _ (one_new _ _).1 size_bt rfl (btC_one _ _ _) ?_; intro w3 hp3; have hE3 : Ext w2 w3 := hp3.below (one_new _ _).2.1 (Nat.le_refl _); have ho3 := hp3.own (ho2.below (one_new w2 _).2.1) (fun k hk => by have := (ho2.at hk).2; omega) (fun _ h => h.elim); have H3 := Lib.hid (And.intro hE3 (And.intro ho3 hp3.obj)); clear hE3 ho3 hp3))
            have hEr3 := Ext.trans _ _ _ hE2 H3.out.1
            have Hrd3 := Lib.hid (Hrd.out w3 hEr3)
            clear Hrd Hd
            go_wp2_with fail
            refine Hrd3.out.mono ?_
            rintro e w4 ⟨x4, A4, c4, er4, rfl, ho4, hE4, rfl, rfl⟩
            unfold btC
            go_upto_region 17 with (refine gate_op (p := .store 24 (.tmp 16) (.tmp 76)) rfl ?_; go_must (refine put_row rfl 24 (.tmp 16) (.tmp 76) rfl w4.heap.size (btC btNone A4 c4) rfl rfl _ _ (one_new _ _).1 size_bt rfl (btC_one _ _ _) ?_; intro w5 hp5; have hE5 : Ext w4 w5 := hp5.below (one_new _ _).2.1 (Nat.le_refl _); have ho5 := hp5.own (ho4.below (one_new w4 _).2.1) (fun k hk => by have := (ho4.at hk).2; omega) (fun _ h => h.elim); have H5 := Lib.hid (And.intro hE5 (And.intro ho5 hp5.obj)); clear hE5 ho5 hp5))
            have hE35 := Ext.trans _ _ _ hE4 H5.out.1
            have hs23 : w2.heap.size < w3.heap.size := (Array.getElem?_eq_some_iff.1 H3.out.2.2).1
            have hj3 := (hE35.block w2.heap.size (by omega)).trans H3.out.2.2
            have hj5 := H5.out.2.2
            have hb3 := (btAt_own zero_ok H3.out.2.1).below hE35 |>.up hE35.size
            have hb5 := btAt_own zero_ok H5.out.2.1
            have hEr5 := Ext.trans _ _ _ hEr3 hE35
            have Hs := Lib.hid (Rsame_calls w5 w5.heap.size (Nat.le_refl _) btNone btNone A2 A4 c2 c4 hb3 hb5)
            rw [same_self] at Hs
            clear hb3 hb5 ho2 ho4 H3 H5 Hrd3 hE2 hE4 hE35 hEr3
            unfold btC btNone at *
            simp only [List.length_nil] at Hs hj3 hj5
            have k0 := (cell_of hj3 0).trans rfl
            have k1 := (cell_of hj3 1).trans rfl
            have k2 := (cell_of hj3 2).trans rfl
            have k3 := (cell_of hj3 3).trans rfl
            have k4 := (cell_of hj3 4).trans rfl
            have k5 := (cell_of hj3 5).trans rfl
            have k6 := (cell_of hj3 6).trans rfl
            have q0 := (cell_of hj5 0).trans rfl
            have q1 := (cell_of hj5 1).trans rfl
            have q2 := (cell_of hj5 2).trans rfl
            have q3 := (cell_of hj5 3).trans rfl
            have q4 := (cell_of hj5 4).trans rfl
            have q5 := (cell_of hj5 5).trans rfl
            have q6 := (cell_of hj5 6).trans rfl
            clear hj3 hj5
            go_wp2_with fail
            refine Hs.out.mono ?_
            rintro e w6 ⟨rfl, hE6⟩
            have hEr6 := Ext.trans _ _ _ hEr5 hE6
            clear k0 k1 k2 k3 k4 k5 k6 q0 q1 q2 q3 q4 q5 q6 hEr5 hE6 Hs
            by_cases hk0 : k = 0
            · subst hk0
              obtain ⟨hX2, hoX⟩ := HO.out rfl
              have hoX2 := hoX.below hEr6
              clear HO hoX
              have hE9 := Ext.trans _ _ _ hE hEr6
              have HM9 := Lib.hid (show Sl kb w6 (fun k => k < w.heap.size) (.slice Am M.length cm) M from ⟨Am, cm, rfl, by omega, hmm, HM.out w6 hE9⟩)
              go_wp2_with (at_builtin; go_must (refine app_flat kb flat_kb w.heap.size rfl (.tmp 105) (.tmp 106) 31 5 1 rfl Try.underlying31 info_u8 (.slice A X.length cx) (.slice Am M.length cm) X M _ _ rfl rfl hoX2 HM9.out (by omega) (by simp only [maxLen]; omega) hE9.size ?_; intro v10 w10 ho10 hg10 ha10))
              obtain ⟨A10, c10, e10, l10, m10⟩ := ho10.slice
              subst e10
              have hE10 : Ext w w10 := Below.grown hE9 hg10 hE9.size (fun k hk => (hoX2.at hk).1)
              obtain ⟨A', c', e', l', m', r'⟩ := ho10.sl
              injection e' with e4 e5 e6
              subst e4; subst e6
              have hat := fun k hk => (ho10.at (k := k) hk).2
              go_roundw
              case rel => exact ⟨1, A10, c10, X ++ M, by omega, by first | rfl | go_num, rfl, l10, m10, by rw [List.length_append]; omega, r'.mono fun k hk => hat k (hk.resolve_left id), Lib.hid (fun a e => own_lt ho10 e), Lib.hid (fun h => by cases h), hE10⟩
              case measure => simp [intOf]
            · have hk0i : ((k : Int) == 0) = false := by rw [beq_eq_false_iff_ne]; omega
              have hE9 := Ext.trans _ _ _ hE hEr6
              go_wp2
              go_roundw
              case rel => exact ⟨k + 1, Am, cm, M, by omega, by go_num, rfl, by omega, hmm, by omega, (HM.out w6 hE9).mono fun k hk => Nat.lt_of_lt_of_le hk hE9.size, Lib.hid (fun a e => Nat.lt_of_lt_of_le (HA.out a e) hE9.size), Lib.hid (fun h => by omega), hE9⟩
              case measure => simp [intOf]; omega
          | some x =>
            obtain ⟨hXe, hv⟩ := Hsm.out x hd
            have hokx : BtOk x := validE_ok hv
            have hXo : encOf x = X := (if_pos hv).trans hXe.symm
            rw [hd] at Hd Hrd
            clear hd hXe
            go_wp2_with fail
            refine Hd.out.mono ?_
            rintro e w2 ⟨x2, A2, c2, er2, rfl, ho2, hE2, hx2, rfl⟩
            obtain rfl := hx2.symm
            unfold btC
            go_upto_region 16 with (refine gate_op (p := .store 24 (.tmp 14) (.tmp 71)) rfl ?_; go_must (refine put_row rfl 24 (.tmp 14) (.tmp 71) rfl w2.heap.size (btC x A2 c2) rfl rfl _ _ (one_new _ _).1 size_bt rfl (btC_one _ _ _) ?_; intro w3 hp3; have hE3 : Ext w2 w3 := hp3.below (one_new _ _).2.1 (Nat.le_refl _); have ho3 := hp3.own (ho2.below (one_new w2 _).2.1) (fun k hk => by have := (ho2.at hk).2; omega) (fun _ h => h.elim); have H3 := Lib.hid (And.intro hE3 (And.intro ho3 hp3.obj)); clear hE3 ho3 hp3))
            have hEr3 := Ext.trans _ _ _ hE2 H3.out.1
            have Hrd3 := Lib.hid (Hrd.out w3 hEr3)
            clear Hrd Hd
            go_wp2_with fail
            refine Hrd3.out.mono ?_
            rintro e w4 ⟨x4, A4, c4, er4, rfl, ho4, hE4, hx4, rfl⟩
            obtain rfl := hx4.symm
            unfold btC
            go_upto_region 17 with (refine gate_op (p := .store 24 (.tmp 16) (.tmp 76)) rfl ?_; go_must (refine put_row rfl 24 (.tmp 16) (.tmp 76) rfl w4.heap.size (btC x A4 c4) rfl rfl _ _ (one_new _ _).1 size_bt rfl (btC_one _ _ _) ?_; intro w5 hp5; have hE5 : Ext w4 w5 := hp5.below (one_new _ _).2.1 (Nat.le_refl _); have ho5 := hp5.own (ho4.below (one_new w4 _).2.1) (fun k hk => by have := (ho4.at hk).2; omega) (fun _ h => h.elim); have H5 := Lib.hid (And.intro hE5 (And.intro ho5 hp5.obj)); clear hE5 ho5 hp5))
            have hE35 := Ext.trans _ _ _ hE4 H5.out.1
            have hs23 : w2.heap.size < w3.heap.size := (Array.getElem?_eq_some_iff.1 H3.out.2.2).1
            have hj3 := (hE35.block w2.heap.size (by omega)).trans H3.out.2.2
            have hj5 := H5.out.2.2
            have hb3 := (btAt_own hokx H3.out.2.1).below hE35 |>.up hE35.size
            have hb5 := btAt_own hokx H5.out.2.1
            have hEr5 := Ext.trans _ _ _ hEr3 hE35
            have Hs := Lib.hid (Rsame_calls w5 w5.heap.size (Nat.le_refl _) x x A2 A4 c2 c4 hb3 hb5)
            rw [same_self] at Hs
            have Hea := Lib.hid (fun W (hE' : Ext w5 W) => Encode_calls W w5.heap.size hE'.size x A2 c2 (hb3.below hE'))
            unfold EncPost at Hea
            rw [hXo, hv] at Hea
            have Hj3 := Lib.hid (fun W (hE' : Ext w5 W) => (hE'.block w2.heap.size (by have := hE35.size; omega)).trans hj3)
            clear hXo hv
            clear hb3 hb5 ho2 ho4 H3 H5 Hrd3 hE2 hE4 hE35 hEr3
            unfold btC at *
            have k0 := (cell_of hj3 0).trans rfl
            have k1 := (cell_of hj3 1).trans rfl
            have k2 := (cell_of hj3 2).trans rfl
            have k3 := (cell_of hj3 3).trans rfl
            have k4 := (cell_of hj3 4).trans rfl
            have k5 := (cell_of hj3 5).trans rfl
            have k6 := (cell_of hj3 6).trans rfl
            have q0 := (cell_of hj5 0).trans rfl
            have q1 := (cell_of hj5 1).trans rfl
            have q2 := (cell_of hj5 2).trans rfl
            have q3 := (cell_of hj5 3).trans rfl
            have q4 := (cell_of hj5 4).trans rfl
            have q5 := (cell_of hj5 5).trans rfl
            have q6 := (cell_of hj5 6).trans rfl
            clear hj3 hj5
            go_wp2_with fail
            refine Hs.out.mono ?_
            rintro e w6 ⟨rfl, hE6⟩
            have hEr6 := Ext.trans _ _ _ hEr5 hE6
            have hj6 := Hj3.out w6 hE6
            clear k0 k1 k2 k3 k4 k5 k6 q0 q1 q2 q3 q4 q5 q6 hEr5 Hs
            have k0 := (cell_of hj6 0).trans rfl
            have k1 := (cell_of hj6 1).trans rfl
            have k2 := (cell_of hj6 2).trans rfl
            have k3 := (cell_of hj6 3).trans rfl
            have k4 := (cell_of hj6 4).trans rfl
            have k5 := (cell_of hj6 5).trans rfl
            have k6 := (cell_of hj6 6).trans rfl
            clear hj6
            have Hea6 := Lib.hid (Hea.out w6 hE6)
            clear Hea
            go_wp2_with fail
            refine Hea6.out.mono ?_
            rintro e w7 ⟨v7, rfl, ho7, hE7⟩
            clear k0 k1 k2 k3 k4 k5 k6 Hj3 Hea6
            have hEr7 := Ext.trans _ _ _ hEr6 hE7
            obtain ⟨A7, c7, e7, l7, m7, hr7⟩ := ho7.sl
            subst e7
            have hrX := HX.out w7 hEr7
            have hcv7 := conv_str (hr7) 31 9 5 c7 Try.underlying31 Try.underlying5 Try.underlying9
            have hcvX := conv_str (hrX) 31 9 5 cx Try.underlying31 Try.underlying5 Try.underlying9
            have hne : ((⟨X.toArray⟩ : ByteArray) != ⟨X.toArray⟩) = false := by rw [bytes_ne]; simp
            clear hr7 hrX ho7 hEr6 hE7 hE6
            go_upto_region 23 with fail
            clear hcv7 hcvX hne
            by_cases hk0 : k = 0
            · subst hk0
              obtain ⟨hX2, hoX⟩ := HO.out rfl
              have hoX2 := hoX.below hEr7
              clear HO hoX
              have hE9 := Ext.trans _ _ _ hE hEr7
              have HM9 := Lib.hid (show Sl kb w7 (fun k => k < w.heap.size) (.slice Am M.length cm) M from ⟨Am, cm, rfl, by omega, hmm, HM.out w7 hE9⟩)
              go_wp2_with (at_builtin; go_must (refine app_flat kb flat_kb w.heap.size rfl (.tmp 105) (.tmp 106) 31 5 1 rfl Try.underlying31 info_u8 (.slice A X.length cx) (.slice Am M.length cm) X M _ _ rfl rfl hoX2 HM9.out (by omega) (by simp only [maxLen]; omega) hE9.size ?_; intro v10 w10 ho10 hg10 ha10))
              obtain ⟨A10, c10, e10, l10, m10⟩ := ho10.slice
              subst e10
              have hE10 : Ext w w10 := Below.grown hE9 hg10 hE9.size (fun k hk => (hoX2.at hk).1)
              obtain ⟨A', c', e', l', m', r'⟩ := ho10.sl
              injection e' with e4 e5 e6
              subst e4; subst e6
              have hat := fun k hk => (ho10.at (k := k) hk).2
              go_roundw
              case rel => exact ⟨1, A10, c10, X ++ M, by omega, by first | rfl | go_num, rfl, l10, m10, by rw [List.length_append]; omega, r'.mono fun k hk => hat k (hk.resolve_left id), Lib.hid (fun a e => own_lt ho10 e), Lib.hid (fun h => by cases h), hE10⟩
              case measure => simp [intOf]
            · have hk0i : ((k : Int) == 0) = false := by rw [beq_eq_false_iff_ne]; omega
              have hE9 := Ext.trans _ _ _ hE hEr7
              go_wp2
              go_roundw
              case rel => exact ⟨k + 1, Am, cm, M, by omega, by go_num, rfl, by omega, hmm, by omega, (HM.out w7 hE9).mono fun k hk => Nat.lt_of_lt_of_le hk hE9.size, Lib.hid (fun a e => Nat.lt_of_lt_of_le (HA.out a e) hE9.size), Lib.hid (fun h => by omega), hE9⟩
              case measure => simp [intOf]; omega
        · obtain rfl : k = 3 := by omega
          go_wp2_with fail
          refine (awake3_calls _).mono ?_
          rintro e w11 ⟨rfl, hE11⟩
          go_wp2
          go_ret
          exact ⟨rfl, Ext.trans _ _ _ hE hE11⟩
end Go.Proofs.Ytaomhedjamnloaa
