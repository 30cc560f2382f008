/- Contracts: first and awake of towpathlaw03. -/
import Derived.Test.YtaomhedjamnloaaRecI
import Derived.Test.YtaomhedjamnloaaRecG
set_option linter.unusedVariables false
set_option linter.unusedSimpArgs false
namespace Go.Proofs.Ytaomhedjamnloaa
open Go Go.RowKit

def firstB : BtM := ⟨5, 0, 0, 0, 0, 9, [(⟨#[97, 98]⟩, ⟨#[120]⟩, false, 9), (⟨#[97, 99]⟩, ⟨#[]⟩, true, 8)]⟩
def firstL : Array Value := #[.string ⟨#[97, 98]⟩, .string ⟨#[120]⟩, .bool false, .int .i64 9, .string ⟨#[97, 99]⟩, .string ⟨#[]⟩, .bool true, .int .i64 8]
theorem first_valid : validE firstB = 0 := by decide +kernel
theorem first_reps (w : World) (F : Nat → Prop) : Reps (recK.K w F) recK.sz firstB.l firstL.toList :=
  ⟨[_, _, _, _], [_, _, _, _], rfl, rfl, recK_mk w F (r := (⟨#[97, 98]⟩, ⟨#[120]⟩, false, 9)) (by decide) (by decide) (by unfold I64; decide), [_, _, _, _], [], rfl, rfl, recK_mk w F (r := (⟨#[97, 99]⟩, ⟨#[]⟩, true, 8)) (by decide) (by decide) (by unfold I64; decide), rfl⟩
theorem encN_lit {n : Nat} (h : n < 128) : encN n = [UInt8.ofNat n] := encN_small h
theorem first_enc : encB firstB = [1, 0, 5, 0, 9, 2, 0, 0, 0, 2, 97, 98, 1, 120, 1, 1, 1, 1, 99] := by
  unfold encB encHead firstB
  simp only [encRs, encR, encT, show zig (9 - 9) = 0 from rfl, show zig (8 - 9) = 1 from rfl]
  rw [encN_lit (show (5 : Int).toNat < 128 by decide), encN_lit (show (0 : Int).toNat < 128 by decide), encN_lit (show (9 : Int).toNat < 128 by decide)]
  rw [show ([((⟨#[97, 98]⟩ : ByteArray), (⟨#[120]⟩ : ByteArray), false, (9 : Int)), (⟨#[97, 99]⟩, ⟨#[]⟩, true, 8)] : List Rc).length = 2 from rfl]
  rw [show keyN (⟨#[]⟩ : ByteArray) ⟨#[97, 98]⟩ = 0 from rfl, show keyN (⟨#[97, 98]⟩ : ByteArray) ⟨#[97, 99]⟩ = 1 from rfl]
  rw [show cutK (⟨#[97, 98]⟩ : ByteArray) 0 = ⟨#[97, 98]⟩ from rfl, show cutK (⟨#[97, 99]⟩ : ByteArray) 1 = ⟨#[99]⟩ from rfl]
  rw [show (ByteArray.mk #[97, 98]).size = 2 from rfl, show (ByteArray.mk #[120]).size = 1 from rfl, show (ByteArray.mk #[99]).size = 1 from rfl]
  rw [encN_lit (show 0 < 128 by decide), encN_lit (show 1 < 128 by decide), encN_lit (show 2 < 128 by decide)]
  rfl
def markM : BtM := ⟨0, 3, 2, 0, 2, 7, []⟩
theorem markM_valid : validE markM = 0 := by decide +kernel
theorem markM_enc : encB markM = [1, 2, 0, 3, 2, 7] := by
  unfold encB encHead markM
  simp only
  rw [encN_lit (show (0 : Int).toNat < 128 by decide), encN_lit (show (3 : Int).toNat < 128 by decide), encN_lit (show (2 : Int).toNat < 128 by decide), encN_lit (show (7 : Int).toNat < 128 by decide)]
  rfl
set_option maxRecDepth 8000 in
set_option maxHeartbeats 800000 in
theorem first_calls (w : World) : Calls Try.prog 51 #[] w (BtOwn w firstB) := by
  obtain ⟨h1, h2, h3, h4⟩ := two_new w (.cells (btC btNone none 0) 24) (.cells firstL 54)
  unfold btC btNone firstL at h1 h2 h3 h4
  simp only [List.length_nil] at h1 h2 h3 h4
  have ho := Own.lit (d := recK) (e := 54) (w.alloc (.cells (btC btNone none 0) 24)) (Nat.le_refl _) (F := fun _ => False) firstL.toList firstB.l 2 rfl (by decide) (first_reps _ _)
  have Ho := Lib.hid ho
  clear ho
  unfold btC btNone firstL at Ho
  simp only [List.length_nil] at Ho
  go_enter Try.func51, Try.ntmps51
  go_wp2_with (refine gate_op (p := .store 24 (.tmp 0) (.tmp 4)) rfl ?_; go_must (refine put_row rfl 24 (.tmp 0) (.tmp 4) rfl w.heap.size (btC firstB (some ⟨w.heap.size + 1, 0, none⟩) 2) rfl rfl _ _ h1 size_bt rfl (btC_one _ _ _) ?_; intro wf hpf))
  refine bodyPost_ret (results_cell_row rfl _ _ w.heap.size _ _ _ _ rfl hpf.obj Try.underlying24 rfl size_bt) rfl ?_
  have ho := Ho.out
  rw [show (w.alloc (.cells #[.int .i64 0, .int .i64 0, .int .i64 0, .int .i64 0, .int .i64 0, .int .i64 0, .slice none 0 0] 24)).heap.size = w.heap.size + 1 by simp] at ho
  have hat := fun k (hk : (Value.slice (some ⟨w.heap.size + 1, 0, none⟩) 2 2).ownBlock = some k) => (ho.at hk).1
  exact ⟨some ⟨w.heap.size + 1, 0, none⟩, 2, rfl, (hpf.own ho (fun k hk => by have := hat k hk; omega) (fun _ h => h.elim)).lower (by omega), hpf.below h3 (Nat.le_refl _)⟩
def IsBt (b : BtM) (v : Value) (w : World) : Prop := ∃ A c, v = .agg (btC b A c) ∧ BtAt w w.heap.size b A c
theorem IsBt.ext {b : BtM} {v : Value} {w w' : World} (h : IsBt b v w) (hE : Ext w w') : IsBt b v w' := by
  obtain ⟨A, c, e, h⟩ := h
  exact ⟨A, c, e, (h.below hE).up hE.size⟩
def SP.bt (b : BtM) : SP Ext := ⟨fun v w => IsBt b v w, fun h hE => h.ext hE⟩
theorem firstB_ok : BtOk firstB := ⟨by unfold I64; decide, by unfold I64; decide, by unfold I64; decide, by unfold I64; decide, by unfold I64; decide, by unfold I64; decide⟩
theorem markM_ok : BtOk markM := ⟨by unfold I64; decide, by unfold I64; decide, by unfold I64; decide, by unfold I64; decide, by unfold I64; decide, by unfold I64; decide⟩
theorem same_self (b : BtM) : sameB b b = true := (sameB_iff b b).2 rfl
def firstEnc : List UInt8 := [1, 0, 5, 0, 9, 2, 0, 0, 0, 2, 97, 98, 1, 120, 1, 1, 1, 1, 99]
def markEnc : List UInt8 := [1, 2, 0, 3, 2, 7]
theorem btAt_nil (w : World) {b : BtM} (hk : BtOk b) (hl : b.l = []) : BtAt w w.heap.size b none 0 := ⟨hk, by rw [hl]; exact ⟨Nat.le_refl _, Nat.zero_le _⟩, by rw [hl]; exact Row.nil _ _ _ _⟩
set_option maxRecDepth 8000 in
set_option maxHeartbeats 1600000 in
theorem awake3_calls (w : World) : Calls Try.prog 16 #[] w fun e w' => e = .returned (.bool true) ∧ Ext w w' := by
  have He1 : encOf firstB = firstEnc := (if_pos first_valid).trans first_enc
  have He2 : encOf markM = markEnc := (if_pos markM_valid).trans markM_enc
  have Hd1 : decB firstEnc = some firstB := by
    have h := decB_enc first_valid
    rw [first_enc] at h
    exact h
  go_enter Try.func16, Try.ntmps16
  go_wp2_with fail
  refine (first_calls w).mono ?_
  rintro e w1 ⟨A1, c1, rfl, ho1, hE1⟩
  have HEn := Lib.hid (Encode_calls w1 w1.heap.size (Nat.le_refl _) firstB A1 c1 (btAt_own firstB_ok ho1))
  unfold EncPost at HEn
  rw [He1, first_valid] at HEn
  clear ho1
  go_wp2_with fail
  refine HEn.out.mono ?_
  rintro e w2 ⟨v2, rfl, ho2, hE2⟩
  have hE12 := Ext.trans _ _ _ hE1 hE2
  have HMk := Lib.hid (Mark_calls w2 3 2 true 7)
  rw [show (BtM.mk 0 3 2 0 (if true = true then 2 else 3) 7 []) = markM from rfl] at HMk
  go_wp2_with fail
  refine HMk.out.mono ?_
  rintro e w3 ⟨rfl, hE3⟩
  have hE13 := Ext.trans _ _ _ hE12 hE3
  have HEm := Lib.hid (Encode_calls w3 w3.heap.size (Nat.le_refl _) markM none 0 (btAt_nil w3 markM_ok rfl))
  unfold EncPost at HEm
  rw [He2, markM_valid] at HEm
  go_wp2_with fail
  refine HEm.out.mono ?_
  rintro e w4 ⟨v4, rfl, ho4, hE4⟩
  have hE14 := Ext.trans _ _ _ hE13 hE4
  have ho24 := ho2.below (Ext.trans _ _ _ hE3 hE4)
  have hat24 := fun k (hk : v2.ownBlock = some k) => (ho24.at hk).2
  obtain ⟨A2, c2, e2, hc2, hm2, hr2⟩ := ho24.sl
  subst e2
  have HDe := Lib.hid (Decode_calls A2 c2 firstEnc (fun k => k < w4.heap.size) w4 (by decide) hc2 hm2 (fun _ h => h) (hr2.mono fun k hk => hat24 k (hk.resolve_left id)))
  rw [Hd1] at HDe
  go_wp2_with fail
  refine HDe.out.mono ?_
  rintro e w5 ⟨bd, A5, c5, er, rfl, ho5, hE5, rfl, rfl⟩
  have hE15 := Ext.trans _ _ _ hE14 hE5
  obtain ⟨j1, j3, j4⟩ := one_new w5 (.cells (btC firstB A5 c5) 24)
  have hbt5 := (btAt_own firstB_ok ho5).below j3
  have hbt6 := hbt5.up (Nat.le_of_lt (show w5.heap.size < (w5.alloc (.cells (btC firstB A5 c5) 24)).heap.size by omega))
  have Hj := Lib.hid (fun W (hE : Ext (w5.alloc (.cells (btC firstB A5 c5) 24)) W) => (hE.block w5.heap.size (by omega)).trans j1)
  have hr2' := hr2.mono (G := fun k => k < w4.heap.size) fun k hk => hat24 k (hk.resolve_left id)
  have Hr2 := Lib.hid (fun W (hE : Ext (w5.alloc (.cells (btC firstB A5 c5) 24)) W) => hr2'.belowF (fun _ h => h) (Ext.trans _ _ _ hE5 (Ext.trans _ _ _ j3 hE)))
  obtain ⟨A4, c4, e4, hc4, hm4, hr4⟩ := ho4.sl
  subst e4
  have hat4 := fun k (hk : (Value.slice A4 markEnc.length c4).ownBlock = some k) => (ho4.at hk).2
  have hr4' := hr4.mono (G := fun k => k < w4.heap.size) fun k hk => hat4 k (hk.resolve_left id)
  have Hr4 := Lib.hid (fun W (hE : Ext (w5.alloc (.cells (btC firstB A5 c5) 24)) W) => hr4'.belowF (fun _ h => h) (Ext.trans _ _ _ hE5 (Ext.trans _ _ _ j3 hE)))
  have HE6 := Lib.hid (Ext.trans _ _ _ hE15 j3)
  have Hbt6 := Lib.hid hbt6
  have Hfi := Lib.hid (fun W => first_calls W)
  clear hbt5 hbt6 j1 j3 hr2 hr2' hr4 hr4' ho2 ho24 ho4 ho5 hat24 hat4 hE1 hE2 hE3 hE4 hE5 hE12 hE13 hE14 hE15 hm2 hm4 hc2 hc4 He1 He2 Hd1 HDe
  unfold btC at *
  go_upto_region 4 with fail
  generalize w5.alloc _ = w6 at *
  refine wp_region_steps [.eq (.int .i64 0), .eq (.bool true), .eq (.bool true), .eq (.slice A2 firstEnc.length c2), .eq (.string ⟨#[1, 0, 5, 0, 9, 2, 0, 0, 0, 2, 97, 98, 1, 120, 1, 1, 1, 1, 99]⟩), .eq (.bool true), .eq (.bool true), .eq (.bool true), .eq (.int .i64 0), .eq (.bool true), .eq (.bool true), .eq (.bool true), .eq (.slice A4 markEnc.length c4), .eq (.string ⟨#[1, 2, 0, 3, 2, 7]⟩), .eq (.bool true), .eq (.bool true), .eq (.bool true), .eq (.int .i64 0), .eq (.bool true), .eq (.bool true), .eq (.bool true), .bt firstB, .bt firstB, .eq (.bool true), .eq (.bool true), .eq (.bool true)] (by kernel_rfl) (by kernel_rfl) (all_dst (by kernel_rfl)) ?_ ?_
  · refine ⟨?_, ?_, ?_, ?_, ?_, ?_, ?_, ?_, ?_, ?_, ?_, ?_, ?_, ?_, ?_, ?_, ?_, ?_, ?_, ?_, ?_, ?_, ?_, ?_, ?_, ?_, trivial⟩
    · intro S W K hE hf hd hK
      have f2 : S.tmps.getD 2 undef = .int .i64 0 := hf 2 (by kernel_rfl)
      refine want_free rfl ?_
      rw [Array.getD_eq_getD_getElem?] at f2
      go_simp
      exact hK _ _ (Ext.refl _) (fun _ => rfl)
    · intro S W K hE hf hd hK
      have d22 : S.tmps.getD 22 undef = (.int .i64 0) := hd 0 _ rfl (by kernel_rfl)
      refine want_free rfl ?_
      rw [Array.getD_eq_getD_getElem?] at d22
      go_simp
      exact hK _ _ (Ext.refl _) (fun _ => rfl)
    · intro S W K hE hf hd hK
      have d23 : S.tmps.getD 23 undef = (.bool true) := hd 1 _ rfl (by kernel_rfl)
      refine want_free rfl ?_
      rw [Array.getD_eq_getD_getElem?] at d23
      go_simp
      exact hK _ _ (Ext.refl _) (fun _ => rfl)
    · intro S W K hE hf hd hK
      have f1 : S.tmps.getD 1 undef = .slice A2 firstEnc.length c2 := hf 1 (by kernel_rfl)
      have d24 : S.tmps.getD 24 undef = (.bool true) := hd 2 _ rfl (by kernel_rfl)
      refine want_then (t := 24) d24 rfl rfl rfl ?_
      rw [Array.getD_eq_getD_getElem?] at f1 d24
      go_simp
      exact hK _ _ (Ext.refl _) (fun _ => rfl)
    · intro S W K hE hf hd hK
      have d25 : S.tmps.getD 25 undef = (.slice A2 firstEnc.length c2) := hd 3 _ rfl (by kernel_rfl)
      have d24 : S.tmps.getD 24 undef = (.bool true) := hd 2 _ rfl (by kernel_rfl)
      refine want_then (t := 24) d24 rfl rfl rfl ?_
      rw [Array.getD_eq_getD_getElem?] at d25 d24
      have hcv := conv_str ((Hr2.out W hE)) 31 9 5 c2 Try.underlying31 Try.underlying5 Try.underlying9
      rw [show (⟨firstEnc.toArray⟩ : ByteArray) = ⟨#[1, 0, 5, 0, 9, 2, 0, 0, 0, 2, 97, 98, 1, 120, 1, 1, 1, 1, 99]⟩ from rfl] at hcv
      go_simp
      exact hK _ _ (Ext.refl _) (fun _ => rfl)
    · intro S W K hE hf hd hK
      have d26 : S.tmps.getD 26 undef = (.string ⟨#[1, 0, 5, 0, 9, 2, 0, 0, 0, 2, 97, 98, 1, 120, 1, 1, 1, 1, 99]⟩) := hd 4 _ rfl (by kernel_rfl)
      have d24 : S.tmps.getD 24 undef = (.bool true) := hd 2 _ rfl (by kernel_rfl)
      refine want_then (t := 24) d24 rfl rfl rfl ?_
      rw [Array.getD_eq_getD_getElem?] at d26 d24
      go_simp
      exact hK _ _ (Ext.refl _) (fun _ => rfl)
    · intro S W K hE hf hd hK
      have d24 : S.tmps.getD 24 undef = (.bool true) := hd 2 _ rfl (by kernel_rfl)
      have d27 : S.tmps.getD 27 undef = (.bool true) := hd 5 _ rfl (by kernel_rfl)
      refine want_free rfl ?_
      rw [Array.getD_eq_getD_getElem?] at d24 d27
      go_simp
      exact hK _ _ (Ext.refl _) (fun _ => rfl)
    · intro S W K hE hf hd hK
      have d28 : S.tmps.getD 28 undef = (.bool true) := hd 6 _ rfl (by kernel_rfl)
      refine want_free rfl ?_
      rw [Array.getD_eq_getD_getElem?] at d28
      go_simp
      exact hK _ _ (Ext.refl _) (fun _ => rfl)
    · intro S W K hE hf hd hK
      have f4 : S.tmps.getD 4 undef = .int .i64 0 := hf 4 (by kernel_rfl)
      have d29 : S.tmps.getD 29 undef = (.bool true) := hd 7 _ rfl (by kernel_rfl)
      refine want_then (t := 29) d29 rfl rfl rfl ?_
      rw [Array.getD_eq_getD_getElem?] at f4 d29
      go_simp
      exact hK _ _ (Ext.refl _) (fun _ => rfl)
    · intro S W K hE hf hd hK
      have d30 : S.tmps.getD 30 undef = (.int .i64 0) := hd 8 _ rfl (by kernel_rfl)
      have d29 : S.tmps.getD 29 undef = (.bool true) := hd 7 _ rfl (by kernel_rfl)
      refine want_then (t := 29) d29 rfl rfl rfl ?_
      rw [Array.getD_eq_getD_getElem?] at d30 d29
      go_simp
      exact hK _ _ (Ext.refl _) (fun _ => rfl)
    · intro S W K hE hf hd hK
      have d29 : S.tmps.getD 29 undef = (.bool true) := hd 7 _ rfl (by kernel_rfl)
      have d31 : S.tmps.getD 31 undef = (.bool true) := hd 9 _ rfl (by kernel_rfl)
      refine want_free rfl ?_
      rw [Array.getD_eq_getD_getElem?] at d29 d31
      go_simp
      exact hK _ _ (Ext.refl _) (fun _ => rfl)
    · intro S W K hE hf hd hK
      have d32 : S.tmps.getD 32 undef = (.bool true) := hd 10 _ rfl (by kernel_rfl)
      refine want_free rfl ?_
      rw [Array.getD_eq_getD_getElem?] at d32
      go_simp
      exact hK _ _ (Ext.refl _) (fun _ => rfl)
    · intro S W K hE hf hd hK
      have f3 : S.tmps.getD 3 undef = .slice A4 markEnc.length c4 := hf 3 (by kernel_rfl)
      have d33 : S.tmps.getD 33 undef = (.bool true) := hd 11 _ rfl (by kernel_rfl)
      refine want_then (t := 33) d33 rfl rfl rfl ?_
      rw [Array.getD_eq_getD_getElem?] at f3 d33
      go_simp
      exact hK _ _ (Ext.refl _) (fun _ => rfl)
    · intro S W K hE hf hd hK
      have d34 : S.tmps.getD 34 undef = (.slice A4 markEnc.length c4) := hd 12 _ rfl (by kernel_rfl)
      have d33 : S.tmps.getD 33 undef = (.bool true) := hd 11 _ rfl (by kernel_rfl)
      refine want_then (t := 33) d33 rfl rfl rfl ?_
      rw [Array.getD_eq_getD_getElem?] at d34 d33
      have hcv := conv_str ((Hr4.out W hE)) 31 9 5 c4 Try.underlying31 Try.underlying5 Try.underlying9
      rw [show (⟨markEnc.toArray⟩ : ByteArray) = ⟨#[1, 2, 0, 3, 2, 7]⟩ from rfl] at hcv
      go_simp
      exact hK _ _ (Ext.refl _) (fun _ => rfl)
    · intro S W K hE hf hd hK
      have d35 : S.tmps.getD 35 undef = (.string ⟨#[1, 2, 0, 3, 2, 7]⟩) := hd 13 _ rfl (by kernel_rfl)
      have d33 : S.tmps.getD 33 undef = (.bool true) := hd 11 _ rfl (by kernel_rfl)
      refine want_then (t := 33) d33 rfl rfl rfl ?_
      rw [Array.getD_eq_getD_getElem?] at d35 d33
      go_simp
      exact hK _ _ (Ext.refl _) (fun _ => rfl)
    · intro S W K hE hf hd hK
      have d33 : S.tmps.getD 33 undef = (.bool true) := hd 11 _ rfl (by kernel_rfl)
      have d36 : S.tmps.getD 36 undef = (.bool true) := hd 14 _ rfl (by kernel_rfl)
      refine want_free rfl ?_
      rw [Array.getD_eq_getD_getElem?] at d33 d36
      go_simp
      exact hK _ _ (Ext.refl _) (fun _ => rfl)
    · intro S W K hE hf hd hK
      have d37 : S.tmps.getD 37 undef = (.bool true) := hd 15 _ rfl (by kernel_rfl)
      refine want_free rfl ?_
      rw [Array.getD_eq_getD_getElem?] at d37
      go_simp
      exact hK _ _ (Ext.refl _) (fun _ => rfl)
    · intro S W K hE hf hd hK
      have f6 : S.tmps.getD 6 undef = .int .i64 0 := hf 6 (by kernel_rfl)
      have d38 : S.tmps.getD 38 undef = (.bool true) := hd 16 _ rfl (by kernel_rfl)
      refine want_then (t := 38) d38 rfl rfl rfl ?_
      rw [Array.getD_eq_getD_getElem?] at f6 d38
      go_simp
      exact hK _ _ (Ext.refl _) (fun _ => rfl)
    · intro S W K hE hf hd hK
      have d39 : S.tmps.getD 39 undef = (.int .i64 0) := hd 17 _ rfl (by kernel_rfl)
      have d38 : S.tmps.getD 38 undef = (.bool true) := hd 16 _ rfl (by kernel_rfl)
      refine want_then (t := 38) d38 rfl rfl rfl ?_
      rw [Array.getD_eq_getD_getElem?] at d39 d38
      go_simp
      exact hK _ _ (Ext.refl _) (fun _ => rfl)
    · intro S W K hE hf hd hK
      have d38 : S.tmps.getD 38 undef = (.bool true) := hd 16 _ rfl (by kernel_rfl)
      have d40 : S.tmps.getD 40 undef = (.bool true) := hd 18 _ rfl (by kernel_rfl)
      refine want_free rfl ?_
      rw [Array.getD_eq_getD_getElem?] at d38 d40
      go_simp
      exact hK _ _ (Ext.refl _) (fun _ => rfl)
    · intro S W K hE hf hd hK
      have d41 : S.tmps.getD 41 undef = (.bool true) := hd 19 _ rfl (by kernel_rfl)
      refine want_free rfl ?_
      rw [Array.getD_eq_getD_getElem?] at d41
      go_simp
      exact hK _ _ (Ext.refl _) (fun _ => rfl)
    · intro S W K hE hf hd hK
      have f5 : S.tmps.getD 5 undef = .pointer (some ⟨w5.heap.size, 0, none⟩) := hf 5 (by kernel_rfl)
      have d42 : S.tmps.getD 42 undef = (.bool true) := hd 20 _ rfl (by kernel_rfl)
      refine want_then (t := 42) d42 rfl rfl rfl ?_
      rw [Array.getD_eq_getD_getElem?] at f5 d42
      have hh := Hj.out W hE
      refine wp_load_row 24 (.tmp 5) rfl w5.heap.size (by show S.tmps.getD 5 undef = _; rw [Array.getD_eq_getD_getElem?]; exact f5) _ _ _ _ hh Try.underlying24 rfl size_bt ?_
      exact hK _ _ (Ext.refl _) (fun _ => ⟨A5, c5, rfl, (Hbt6.out.below hE).up hE.size⟩)
    · intro S W K hE hf hd hK
      have d42 : S.tmps.getD 42 undef = (.bool true) := hd 20 _ rfl (by kernel_rfl)
      refine want_then (t := 42) d42 rfl rfl rfl ?_
      rw [Array.getD_eq_getD_getElem?] at d42
      go_simp
      refine (Hfi.out W).mono ?_
      rintro e W' ⟨A7, c7, rfl, ho7, hE7⟩
      exact hK _ _ hE7 (fun _ => ⟨A7, c7, rfl, btAt_own firstB_ok ho7⟩)
    · intro S W K hE hf hd hK
      have d43 := hd 21 _ rfl (by kernel_rfl)
      have d44 := hd 22 _ rfl (by kernel_rfl)
      have d42 : S.tmps.getD 42 undef = (.bool true) := hd 20 _ rfl (by kernel_rfl)
      refine want_then (t := 42) d42 rfl rfl rfl ?_
      rw [Array.getD_eq_getD_getElem?] at d42
      obtain ⟨A43, c43, e43, h43⟩ := (show IsBt firstB (S.tmps.getD 43 undef) W from d43)
      obtain ⟨A44, c44, e44, h44⟩ := (show IsBt firstB (S.tmps.getD 44 undef) W from d44)
      have hsm := Rsame_calls W W.heap.size (Nat.le_refl _) firstB firstB A43 A44 c43 c44 h43 h44
      rw [same_self] at hsm
      rw [Array.getD_eq_getD_getElem?] at e43 e44
      go_simp
      refine hsm.mono ?_
      rintro e W' ⟨rfl, hE7⟩
      exact hK _ _ hE7 (fun _ => rfl)
    · intro S W K hE hf hd hK
      have d42 : S.tmps.getD 42 undef = (.bool true) := hd 20 _ rfl (by kernel_rfl)
      have d45 : S.tmps.getD 45 undef = (.bool true) := hd 23 _ rfl (by kernel_rfl)
      refine want_free rfl ?_
      rw [Array.getD_eq_getD_getElem?] at d42 d45
      go_simp
      exact hK _ _ (Ext.refl _) (fun _ => rfl)
    · intro S W K hE hf hd hK
      have d46 : S.tmps.getD 46 undef = (.bool true) := hd 24 _ rfl (by kernel_rfl)
      refine want_free rfl ?_
      rw [Array.getD_eq_getD_getElem?] at d46
      go_simp
      exact hK _ _ (Ext.refl _) (fun _ => rfl)
  · intro vs W hE hV
    have v0 : vs 0 = (.int .i64 0) := hV 0 _ rfl (fun h => by cases h)
    have v1 : vs 1 = (.bool true) := hV 1 _ rfl (fun h => by cases h)
    have v2 : vs 2 = (.bool true) := hV 2 _ rfl (fun h => by cases h)
    have v3 : vs 3 = (.slice A2 firstEnc.length c2) := hV 3 _ rfl (fun h => by cases h)
    have v4 : vs 4 = (.string ⟨#[1, 0, 5, 0, 9, 2, 0, 0, 0, 2, 97, 98, 1, 120, 1, 1, 1, 1, 99]⟩) := hV 4 _ rfl (fun h => by cases h)
    have v5 : vs 5 = (.bool true) := hV 5 _ rfl (fun h => by cases h)
    have v6 : vs 6 = (.bool true) := hV 6 _ rfl (fun h => by cases h)
    have v7 : vs 7 = (.bool true) := hV 7 _ rfl (fun h => by cases h)
    have v8 : vs 8 = (.int .i64 0) := hV 8 _ rfl (fun h => by cases h)
    have v9 : vs 9 = (.bool true) := hV 9 _ rfl (fun h => by cases h)
    have v10 : vs 10 = (.bool true) := hV 10 _ rfl (fun h => by cases h)
    have v11 : vs 11 = (.bool true) := hV 11 _ rfl (fun h => by cases h)
    have v12 : vs 12 = (.slice A4 markEnc.length c4) := hV 12 _ rfl (fun h => by cases h)
    have v13 : vs 13 = (.string ⟨#[1, 2, 0, 3, 2, 7]⟩) := hV 13 _ rfl (fun h => by cases h)
    have v14 : vs 14 = (.bool true) := hV 14 _ rfl (fun h => by cases h)
    have v15 : vs 15 = (.bool true) := hV 15 _ rfl (fun h => by cases h)
    have v16 : vs 16 = (.bool true) := hV 16 _ rfl (fun h => by cases h)
    have v17 : vs 17 = (.int .i64 0) := hV 17 _ rfl (fun h => by cases h)
    have v18 : vs 18 = (.bool true) := hV 18 _ rfl (fun h => by cases h)
    have v19 : vs 19 = (.bool true) := hV 19 _ rfl (fun h => by cases h)
    have v20 : vs 20 = (.bool true) := hV 20 _ rfl (fun h => by cases h)
    have v21 := hV 21 _ rfl (fun h => by cases h)
    have v22 := hV 22 _ rfl (fun h => by cases h)
    have v23 : vs 23 = (.bool true) := hV 23 _ rfl (fun h => by cases h)
    have v24 : vs 24 = (.bool true) := hV 24 _ rfl (fun h => by cases h)
    have v25 : vs 25 = (.bool true) := hV 25 _ rfl (fun h => by cases h)
    clear hV
    set_option maxRecDepth 100000 in simp only [putAll, List.map_cons, List.map_nil, List.length_cons, List.length_nil, Nat.reduceAdd, List.range_succ, List.range_zero, List.nil_append, List.cons_append]
    set_option maxRecDepth 100000 in go_simp
    go_wp2
    go_ret
    exact ⟨rfl, Ext.trans _ _ _ HE6.out hE⟩
end Go.Proofs.Ytaomhedjamnloaa
