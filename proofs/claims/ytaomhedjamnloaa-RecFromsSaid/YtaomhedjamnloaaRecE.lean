/- Contract of rec: Encode. -/
import Derived.Test.YtaomhedjamnloaaRecD
import Derived.Test.YtaomhedjamnloaaRegion2
import Derived.Test.YtaomhedjamnloaaRegion7
set_option linter.unusedVariables false
set_option linter.unusedSimpArgs false
namespace Go.Proofs.Ytaomhedjamnloaa
open Go Go.RowKit

def encOf (b : BtM) : List UInt8 := if validE b = 0 then encB b else []
def EncPost (w : World) (b : BtM) (e : Ending) (w' : World) : Prop := ∃ v, e = .returned (.tuple #[v, .int .i64 (validE b)]) ∧ Own kb 5 w' w.heap.size (fun _ => False) v (encOf b) ∧ Ext w w'
/-- The last key. -/
def lastK : ByteArray → List Rc → ByteArray
  | a, [] => a
  | _, r :: l => lastK r.1 l
theorem encRs_snoc (t : Int) : ∀ (l : List Rc) (a : ByteArray) (r : Rc), encRs t a (l ++ [r]) = encRs t a l ++ encR t (lastK a l) r
  | [], a, r => by simp [encRs, lastK]
  | x :: l, a, r => by rw [List.cons_append, encRs, encRs_snoc t l x.1 r, encRs, lastK, List.append_assoc]
theorem lastK_snoc : ∀ (l : List Rc) (a : ByteArray) (r : Rc), lastK a (l ++ [r]) = r.1
  | [], a, r => rfl
  | x :: l, a, r => lastK_snoc l x.1 r
theorem encT_size (s : ByteArray) (h : s.size ≤ 100000) : (encT s).length ≤ s.size + 10 := by
  have h1 := (encN_len s.size (by omega)).2
  have h2 : s.data.toList.length = s.size := Array.length_toList
  unfold encT
  rw [List.length_append, h2]
  omega
theorem encR_len (t : Int) (a : ByteArray) (r : Rc) (h : recE r = 0) (ht : 0 ≤ t ∧ t ≤ 1099511627776) : (encR t a r).length ≤ 2200 := by
  obtain ⟨h1, h2, h3, h4, h5⟩ := recE_ok h
  have hk := keyN_le a r.1
  have e1 := (encN_len (zig (r.2.2.2 - t)) (zig_lt (by omega))).2
  have e2 := (encN_len (keyN a r.1) (by omega)).2
  have e3 := encT_size (cutK r.1 (keyN a r.1)) (by rw [cutK_size]; omega)
  rw [cutK_size] at e3
  have e4 := encT_size r.2.1 (by omega)
  unfold encR
  split
  · simp only [List.length_append, List.length_nil, List.length_singleton]; omega
  · simp only [List.length_append, List.length_singleton]; omega
theorem encRs_len (t : Int) (ht : 0 ≤ t ∧ t ≤ 1099511627776) : ∀ (l : List Rc) (a : ByteArray), recsE l = 0 → (encRs t a l).length ≤ 2200 * l.length
  | [], a, _ => by simp [encRs]
  | r :: l, a, h => by
    have h0 := recsE_ok h r (List.mem_cons_self ..)
    have h1 : recsE l = 0 := by
      unfold recsE at h
      rw [if_pos h0] at h
      exact h
    have := encR_len t a r h0 ht
    have := encRs_len t ht l r.1 h1
    rw [encRs, List.length_append, List.length_cons]
    omega
def SP.owned (B : Nat) (l : List UInt8) : SP Ext := ⟨fun v w => Own kb 5 w B (fun _ => False) v l, fun h hE => h.below hE⟩
set_option maxRecDepth 8000 in
set_option maxHeartbeats 800000 in
theorem Encode_bad (w : World) (B : Nat) (hB : B ≤ w.heap.size) (b : BtM) (A : Option Addr) (c : Nat) (h : BtAt w B b A c) (hv : validE b ≠ 0) :
    Calls Try.prog 22 #[.agg (btC b A c)] w (EncPost w b) := by
  have Hv := Lib.hid (fun W (hE : Ext w W) => Valid_calls W B (Nat.le_trans hB hE.size) b A c (h.below (Below.mono hE hB)))
  have HE := Lib.hid (Ext.alloc w (.cells #[.int .i64 b.base, .int .i64 b.pid, .int .i64 b.epoch, .int .i64 b.seq, .int .i64 b.kind, .int .i64 b.time, .slice A b.l.length c] 24))
  have Hp := Lib.hid (BtObj.new w b A b.l.length c)
  have Henc := Lib.hid (show encOf b = [] from if_neg hv)
  clear h
  unfold EncPost
  generalize encOf b = L at *
  generalize validE b = v at *
  unfold btC at *
  generalize b.l.length = n at *
  go_enter Try.func22, Try.ntmps22
  go_upto_region 1 with fail
  generalize Value.agg #[.int .i64 b.base, .int .i64 b.pid, .int .i64 b.epoch, .int .i64 b.seq, .int .i64 b.kind, .int .i64 b.time, .slice A n c] = av
  generalize w.alloc (.cells #[.int .i64 b.base, .int .i64 b.pid, .int .i64 b.epoch, .int .i64 b.seq, .int .i64 b.kind, .int .i64 b.time, .slice A n c] 24) = w1 at *
  obtain ⟨k0, k1, k2, k3, k4, k5, k6⟩ := Hp.out.cells
  go_wp2_with fail
  refine (Hv.out w1 HE.out).mono ?_
  rintro e w2 ⟨rfl, hE2⟩
  have hne : decide (v = 0) = false := decide_eq_false hv
  go_wp2
  go_ret2
  rw [Henc.out]
  exact ⟨_, rfl, Own.nil _ _ _ _ _, Ext.trans _ _ _ HE.out hE2⟩
/-- The telling's parts. -/
theorem encB_parts (b : BtM) : encB b = [[1, UInt8.ofNat b.kind.toNat], encN b.base.toNat, encN b.pid.toNat].flatten ++ ((if 0 < b.pid then encN b.epoch.toNat ++ (if markB b = true then [] else encN b.seq.toNat) else []) ++ (encN b.time.toNat ++ (if markB b = true then [] else encN b.l.length ++ encRs b.time ⟨#[]⟩ b.l))) := by
  unfold encB encHead
  simp [List.flatten, List.append_assoc]
theorem lastK_size : ∀ (l : List Rc) (a : ByteArray), recsE l = 0 → a.size ≤ 1024 → (lastK a l).size ≤ 1024
  | [], a, _, h => h
  | r :: l, a, h, _ => by
    have h0 := recsE_ok h r (List.mem_cons_self ..)
    have h1 : recsE l = 0 := by
      unfold recsE at h
      rw [if_pos h0] at h
      exact h
    exact lastK_size l r.1 h1 (recE_ok h0).1
theorem recsE_take : ∀ (l : List Rc) (k : Nat), recsE l = 0 → recsE (l.take k) = 0
  | [], k, _ => by simp [recsE]
  | r :: l, 0, _ => rfl
  | r :: l, k + 1, h => by
    have h0 := recsE_ok h r (List.mem_cons_self ..)
    have h1 : recsE l = 0 := by
      unfold recsE at h
      rw [if_pos h0] at h
      exact h
    rw [List.take_succ_cons, recsE, if_pos h0]
    exact recsE_take l k h1
theorem cutK_ext (s : ByteArray) (n : Nat) : cutK s n = s.extract n s.size := by
  unfold cutK
  apply ByteArray.ext
  simp only [ByteArray.data_extract]
  apply Array.ext'
  simp only [Array.toList_extract]
  rw [List.extract_eq_take_drop]
  have : s.data.toList.length = s.size := Array.length_toList
  rw [List.take_of_length_le (by rw [List.length_drop]; omega)]
set_option maxRecDepth 8000 in
set_option maxHeartbeats 1600000 in
theorem Encode_ok (w : World) (B : Nat) (hB : B ≤ w.heap.size) (b : BtM) (A : Option Addr) (c : Nat) (h : BtAt w B b A c) (hv : validE b = 0) :
    Calls Try.prog 22 #[.agg (btC b A c)] w (EncPost w b) := by
  have Hv := Lib.hid (fun W (hE : Ext w W) => Valid_calls W B (Nat.le_trans hB hE.size) b A c (h.below (Below.mono hE hB)))
  have Hm := Lib.hid (fun W => mark_calls W b A c)
  have HE := Lib.hid (Ext.alloc w (.cells #[.int .i64 b.base, .int .i64 b.pid, .int .i64 b.epoch, .int .i64 b.seq, .int .i64 b.kind, .int .i64 b.time, .slice A b.l.length c] 24))
  have Hp := Lib.hid (BtObj.new w b A b.l.length c)
  have Hrow := Lib.hid (fun W (hE : Ext w W) => h.row.belowF (fun _ hk => Nat.lt_of_lt_of_le hk hB) hE)
  have Henc := Lib.hid ((show encOf b = encB b from if_pos hv).trans (encB_parts b))
  have hf := (validE_iff b).1 hv
  obtain ⟨hk, hb, hpi, he, hs, ht⟩ := hf.nums
  have hl := hf.len
  have Hrs := Lib.hid hf.recs
  have Hmkl := Lib.hid hf.mark
  have hpm : 0 < b.pid ∨ markB b = false := by
    rcases Int.lt_or_le 0 b.pid with h | h
    · exact .inl h
    · have h0 : b.pid = 0 := by omega
      have := hf.fits
      unfold fitsB at this
      by_cases h1 : b.pid = 0 ∧ (b.kind ≠ 0 ∨ b.epoch ≠ 0 ∨ b.seq ≠ 0)
      · rw [if_pos h1] at this; cases this
      · have hk0 : b.kind = 0 := Decidable.of_not_not fun hs => h1 ⟨h0, .inl hs⟩
        refine .inr ?_
        unfold markB
        rw [hk0]
        rfl
  clear h hf
  unfold EncPost
  rw [hv] at Hv ⊢
  generalize encOf b = L at *
  generalize hmv : markB b = mk at *
  obtain ⟨base, pid, epoch, seq, kind, time, l⟩ := b
  simp only at *
  obtain ⟨base, rfl⟩ := Int.eq_ofNat_of_zero_le hb.1
  obtain ⟨pid, rfl⟩ := Int.eq_ofNat_of_zero_le hpi.1
  obtain ⟨epoch, rfl⟩ := Int.eq_ofNat_of_zero_le he.1
  obtain ⟨seq, rfl⟩ := Int.eq_ofNat_of_zero_le hs.1
  obtain ⟨kind, rfl⟩ := Int.eq_ofNat_of_zero_le hk.1
  obtain ⟨time, rfl⟩ := Int.eq_ofNat_of_zero_le ht.1
  simp only [Int.toNat_natCast] at Henc
  have hk := hk.2
  have hb := hb.2
  have hpi := hpi.2
  have he := he.2
  have hs := hs.2
  have ht := ht.2
  have HU := Lib.hid (fun (n : Nat) (hn : n < 18446744073709551616) W => Uint_calls n hn W)
  have kwb : IntKind.u64.wrap (base : Int) = base := wraps_u64 _ (by omega) (by omega)
  have kwp : IntKind.u64.wrap (pid : Int) = pid := wraps_u64 _ (by omega) (by omega)
  have kwk : IntKind.u8.wrap (kind : Int) = kind := wraps_u8 _ (by omega) (by omega)
  clear hmv
  unfold btC at *
  simp only at *
  generalize hnl : l.length = n at *
  have Hnl := Lib.hid hnl
  clear hnl
  go_enter Try.func22, Try.ntmps22
  go_upto_region 1 with fail
  generalize Value.agg #[.int .i64 base, .int .i64 pid, .int .i64 epoch, .int .i64 seq, .int .i64 kind, .int .i64 time, .slice A n c] = av
  generalize w.alloc (.cells #[.int .i64 base, .int .i64 pid, .int .i64 epoch, .int .i64 seq, .int .i64 kind, .int .i64 time, .slice A n c] 24) = w1 at *
  obtain ⟨k0, k1, k2, k3, k4, k5, k6⟩ := Hp.out.cells
  simp only at k0 k1 k2 k3 k4 k5 k6
  go_wp2_with fail
  refine (Hv.out w1 HE.out).mono ?_
  rintro e w2 ⟨rfl, hE2⟩
  clear k0 k1 k2 k3 k4 k5 k6
  have Hp2 := Lib.hid (fun W (hE : Ext w2 W) => Hp.out.ext (Ext.trans _ _ _ hE2 hE))
  have HE2 := Lib.hid (Ext.trans _ _ _ HE.out hE2)
  clear Hp Hv HE hE2
  go_upto_region 4 with fail
  refine wp_region_steps [.eq (.pointer (some ⟨w.heap.size, 4, none⟩)), .eq (.int .i64 kind), .eq (.int .u8 kind), .sl kb [1, UInt8.ofNat kind], .eq (.pointer (some ⟨w.heap.size, 0, none⟩)), .eq (.int .i64 base), .eq (.int .u64 base), .sl kb (encN base), .eq (.pointer (some ⟨w.heap.size, 1, none⟩)), .eq (.int .i64 pid), .eq (.int .u64 pid), .sl kb (encN pid), .sl (slk kb) [[1, UInt8.ofNat kind], encN base, encN pid], .owned w2.heap.size [[1, UInt8.ofNat kind], encN base, encN pid].flatten, .owned w2.heap.size [[1, UInt8.ofNat kind], encN base, encN pid].flatten] (by kernel_rfl) (by kernel_rfl) (all_dst (by kernel_rfl)) ?_ ?_
  · refine ⟨?_, ?_, ?_, ?_, ?_, ?_, ?_, ?_, ?_, ?_, ?_, ?_, ?_, ?_, ?_, trivial⟩
    · intro S W K hE hf hd hK
      have f1 : S.tmps.getD 1 undef = .pointer (some ⟨w.heap.size, 0, none⟩) := hf 1 (by kernel_rfl)
      refine want_free rfl ?_
      rw [Array.getD_eq_getD_getElem?] at f1
      go_simp
      exact hK _ _ (Ext.refl _) (fun _ => rfl)
    · intro S W K hE hf hd hK
      have d15 : S.tmps.getD 15 undef = (.pointer (some ⟨w.heap.size, 4, none⟩)) := hd 0 _ rfl (by kernel_rfl)
      refine want_free rfl ?_
      rw [Array.getD_eq_getD_getElem?] at d15
      obtain ⟨k0, k1, k2, k3, k4, k5, k6⟩ := (Hp2.out W hE).cells
      go_simp
      exact hK _ _ (Ext.refl _) (fun _ => rfl)
    · intro S W K hE hf hd hK
      have d16 : S.tmps.getD 16 undef = (.int .i64 kind) := hd 1 _ rfl (by kernel_rfl)
      refine want_free rfl ?_
      rw [Array.getD_eq_getD_getElem?] at d16
      go_simp
      exact hK _ _ (Ext.refl _) (fun _ => rfl)
    · intro S W K hE hf hd hK
      have d17 : S.tmps.getD 17 undef = (.int .u8 kind) := hd 2 _ rfl (by kernel_rfl)
      refine want_free rfl ?_
      rw [Array.getD_eq_getD_getElem?] at d17
      go_simp
      have ho := Own.lit (d := kb) (e := 5) W (Nat.le_refl _) (F := fun _ => False) [.int .u8 1, .int .u8 kind] [1, UInt8.ofNat kind] 2 rfl (by decide) ⟨[_], [_], rfl, rfl, ⟨rfl, trivial⟩, [_], [], rfl, rfl, kb_one _ _ kind (by omega), rfl⟩
      exact hK _ _ (Ext.alloc _ _) (fun _ => IsSl.of ho.sl)
    · intro S W K hE hf hd hK
      have f1 : S.tmps.getD 1 undef = .pointer (some ⟨w.heap.size, 0, none⟩) := hf 1 (by kernel_rfl)
      refine want_free rfl ?_
      rw [Array.getD_eq_getD_getElem?] at f1
      go_simp
      exact hK _ _ (Ext.refl _) (fun _ => rfl)
    · intro S W K hE hf hd hK
      have d19 : S.tmps.getD 19 undef = (.pointer (some ⟨w.heap.size, 0, none⟩)) := hd 4 _ rfl (by kernel_rfl)
      refine want_free rfl ?_
      rw [Array.getD_eq_getD_getElem?] at d19
      obtain ⟨k0, k1, k2, k3, k4, k5, k6⟩ := (Hp2.out W hE).cells
      go_simp
      exact hK _ _ (Ext.refl _) (fun _ => rfl)
    · intro S W K hE hf hd hK
      have d20 : S.tmps.getD 20 undef = (.int .i64 base) := hd 5 _ rfl (by kernel_rfl)
      refine want_free rfl ?_
      rw [Array.getD_eq_getD_getElem?] at d20
      go_simp
      exact hK _ _ (Ext.refl _) (fun _ => rfl)
    · intro S W K hE hf hd hK
      have d21 : S.tmps.getD 21 undef = (.int .u64 base) := hd 6 _ rfl (by kernel_rfl)
      refine want_free rfl ?_
      rw [Array.getD_eq_getD_getElem?] at d21
      go_simp
      refine (HU.out base (by omega) W).mono ?_
      rintro e W' ⟨v, rfl, hv, hb⟩
      exact hK _ _ hb (fun _ => IsSl.of hv.sl)
    · intro S W K hE hf hd hK
      have f1 : S.tmps.getD 1 undef = .pointer (some ⟨w.heap.size, 0, none⟩) := hf 1 (by kernel_rfl)
      refine want_free rfl ?_
      rw [Array.getD_eq_getD_getElem?] at f1
      go_simp
      exact hK _ _ (Ext.refl _) (fun _ => rfl)
    · intro S W K hE hf hd hK
      have d23 : S.tmps.getD 23 undef = (.pointer (some ⟨w.heap.size, 1, none⟩)) := hd 8 _ rfl (by kernel_rfl)
      refine want_free rfl ?_
      rw [Array.getD_eq_getD_getElem?] at d23
      obtain ⟨k0, k1, k2, k3, k4, k5, k6⟩ := (Hp2.out W hE).cells
      go_simp
      exact hK _ _ (Ext.refl _) (fun _ => rfl)
    · intro S W K hE hf hd hK
      have d24 : S.tmps.getD 24 undef = (.int .i64 pid) := hd 9 _ rfl (by kernel_rfl)
      refine want_free rfl ?_
      rw [Array.getD_eq_getD_getElem?] at d24
      go_simp
      exact hK _ _ (Ext.refl _) (fun _ => rfl)
    · intro S W K hE hf hd hK
      have d25 : S.tmps.getD 25 undef = (.int .u64 pid) := hd 10 _ rfl (by kernel_rfl)
      refine want_free rfl ?_
      rw [Array.getD_eq_getD_getElem?] at d25
      go_simp
      refine (HU.out pid (by omega) W).mono ?_
      rintro e W' ⟨v, rfl, hv, hb⟩
      exact hK _ _ hb (fun _ => IsSl.of hv.sl)
    · intro S W K hE hf hd hK
      obtain ⟨A18, c18, d18, l18, m18, r18⟩ := (show IsSl kb [1, UInt8.ofNat kind] (S.tmps.getD 18 undef) W from hd 3 _ rfl (by kernel_rfl))
      obtain ⟨A22, c22, d22, l22, m22, r22⟩ := (show IsSl kb (encN base) (S.tmps.getD 22 undef) W from hd 7 _ rfl (by kernel_rfl))
      obtain ⟨A26, c26, d26, l26, m26, r26⟩ := (show IsSl kb (encN pid) (S.tmps.getD 26 undef) W from hd 11 _ rfl (by kernel_rfl))
      refine want_free rfl ?_
      rw [Array.getD_eq_getD_getElem?] at d18 d22 d26
      go_simp
      exact hK _ _ (Ext.alloc _ _) (fun _ => ⟨some ⟨W.heap.size, 0, none⟩, 3, rfl, by simp, by simp [maxLen], [.slice A18 2 c18, .slice A22 (encN base).length c22, .slice A26 (encN pid).length c26], cells_new W _ _ _, ⟨[_], [_, _], rfl, rfl, ⟨_, rfl, A18, c18, rfl, l18, m18, (r18.alloc _).lt⟩, [_], [_], rfl, rfl, ⟨_, rfl, A22, c22, rfl, l22, m22, (r22.alloc _).lt⟩, [_], [], rfl, rfl, ⟨_, rfl, A26, c26, rfl, l26, m26, (r26.alloc _).lt⟩, rfl⟩⟩)
    · intro S W K hE hf hd hK
      obtain ⟨A27, c27, d27, l27, m27, r27⟩ := (show IsSl (slk kb) [[1, UInt8.ofNat kind], encN base, encN pid] (S.tmps.getD 27 undef) W from hd 12 _ rfl (by kernel_rfl))
      refine want_free rfl ?_
      rw [Array.getD_eq_getD_getElem?] at d27
      go_simp
      have hjl : [[1, UInt8.ofNat kind], encN base, encN pid].flatten.length ≤ 70368744177664 := by
        have := (encN_len base (by omega)).2
        have := (encN_len pid (by omega)).2
        simp only [List.flatten_cons, List.flatten_nil, List.length_append, List.length_cons, List.length_nil]
        omega
      refine (Join_calls A27 c27 [[1, UInt8.ofNat kind], encN base, encN pid] _ W (by simp [maxLen]) hjl (fun _ h => h) r27).mono ?_
      rintro e W' ⟨v, rfl, hv, hb⟩
      exact hK _ _ hb (fun _ => hv.lower hE.size)
    · intro S W K hE hf hd hK
      have d28 := hd 13 _ rfl (by kernel_rfl)
      refine want_free rfl ?_
      go_simp
      have q := (show Own kb 5 W w2.heap.size (fun _ => False) (S.tmps.getD 28 undef) [[1, UInt8.ofNat kind], encN base, encN pid].flatten from d28)
      rw [Array.getD_eq_getD_getElem?] at q
      exact hK _ _ (Ext.refl _) (fun _ => q)
  · intro vs W hE hV
    have v0 : vs 0 = (.pointer (some ⟨w.heap.size, 4, none⟩)) := hV 0 _ rfl (fun h => by cases h)
    have v1 : vs 1 = (.int .i64 kind) := hV 1 _ rfl (fun h => by cases h)
    have v2 : vs 2 = (.int .u8 kind) := hV 2 _ rfl (fun h => by cases h)
    have v3 := hV 3 _ rfl (fun h => by cases h)
    have v4 : vs 4 = (.pointer (some ⟨w.heap.size, 0, none⟩)) := hV 4 _ rfl (fun h => by cases h)
    have v5 : vs 5 = (.int .i64 base) := hV 5 _ rfl (fun h => by cases h)
    have v6 : vs 6 = (.int .u64 base) := hV 6 _ rfl (fun h => by cases h)
    have v7 := hV 7 _ rfl (fun h => by cases h)
    have v8 : vs 8 = (.pointer (some ⟨w.heap.size, 1, none⟩)) := hV 8 _ rfl (fun h => by cases h)
    have v9 : vs 9 = (.int .i64 pid) := hV 9 _ rfl (fun h => by cases h)
    have v10 : vs 10 = (.int .u64 pid) := hV 10 _ rfl (fun h => by cases h)
    have v11 := hV 11 _ rfl (fun h => by cases h)
    have v12 := hV 12 _ rfl (fun h => by cases h)
    have v13 := hV 13 _ rfl (fun h => by cases h)
    have v14 := hV 14 _ rfl (fun h => by cases h)
    clear hV
    set_option maxRecDepth 100000 in simp only [putAll, List.map_cons, List.map_nil, List.length_cons, List.length_nil, Nat.reduceAdd, List.range_succ, List.range_zero, List.nil_append, List.cons_append]
    set_option maxRecDepth 100000 in go_simp
    have ho := (show Own kb 5 W w2.heap.size (fun _ => False) (vs 14) [[1, UInt8.ofNat kind], encN base, encN pid].flatten from v14)
    have hjl : [[1, UInt8.ofNat kind], encN base, encN pid].flatten.length ≤ 22 := by
      have := (encN_len base (by omega)).2
      have := (encN_len pid (by omega)).2
      simp only [List.flatten_cons, List.flatten_nil, List.length_append, List.length_cons, List.length_nil]
      omega
    have hs2 := HE2.out.size
    have hWs := hE.size
    clear v0 v1 v2 v3 v4 v5 v6 v7 v8 v9 v10 v11 v12 v13 v14 kwb kwp kwk
    generalize vs 14 = u5 at *
    generalize [[1, UInt8.ofNat kind], encN base, encN pid].flatten = P0 at *
    have kwe : IntKind.u64.wrap (epoch : Int) = epoch := wraps_u64 _ (by omega) (by omega)
    have kws : IntKind.u64.wrap (seq : Int) = seq := wraps_u64 _ (by omega) (by omega)
    have kwt : IntKind.u64.wrap (time : Int) = time := wraps_u64 _ (by omega) (by omega)
    have hel := (encN_len epoch (by omega)).2
    have hsl := (encN_len seq (by omega)).2
    have htl := (encN_len time (by omega)).2
    have Hho := Lib.hid ho
    clear ho
    obtain ⟨k0, k1, k2, k3, k4, k5, k6⟩ := (Hp2.out _ hE).cells
    simp only at k0 k1 k2 k3 k4 k5 k6
    go_upto_if 31 with fail
    go_cut [5] (fun v wx => ∃ l, l = (if 0 < (pid : Int) then encN epoch ++ (if mk = true then [] else encN seq) else []) ∧ Own kb 5 wx w2.heap.size (fun _ => False) v (P0 ++ l) ∧ l.length ≤ 20 ∧ Ext w2 wx)
    case first =>
      by_cases hp0 : 0 < (pid : Int)
      · have Hp0 := Lib.hid hp0
        go_wp2_with fail
        refine (HU.out epoch (by omega) W).mono ?_
        rintro e w3 ⟨v3, rfl, ho3, hE3⟩
        have ho3' := Hho.out.below hE3
        have hs3 := hE3.size
        have hE3' := Ext.trans _ _ _ hE hE3
        obtain ⟨A5, c5, e5, _, _⟩ := ho3'.slice
        subst e5
        obtain ⟨A3, c3, e3, _, _⟩ := ho3.slice
        subst e3
        clear k0 k1 k2 k3 k4 k5 k6
        go_wp2_with (at_builtin; go_must (refine app_flat kb flat_kb w2.heap.size rfl (.tmp 32) (.tmp 36) 31 5 1 rfl Try.underlying31 info_u8 (.slice A5 P0.length c5) (.slice A3 (encN epoch).length c3) P0 (encN epoch) (fun _ => False) _ rfl rfl ho3' ho3.sl (by omega) (by simp only [maxLen]; omega) (by omega) ?_; intro v4 w4 ho4 hg4 ha4; have hE4 : Ext w2 w4 := hE3'.grown hg4 hE3'.size (fun j hj => (ho3'.at hj).1); obtain ⟨k0, k1, k2, k3, k4, k5, k6⟩ := (Hp2.out _ hE4).cells; have Ho4 := Lib.hid (And.intro ho4 hE4); clear ho4 hg4 ha4))
        refine (Hm.out _).mono ?_
        rintro e w5 ⟨rfl, hE5⟩
        clear k0 k1 k2 k3 k4 k5 k6
        have hE5' := Ext.trans _ _ _ Ho4.out.2 hE5
        have ho5 := Ho4.out.1.below hE5
        have hl5 : (P0 ++ encN epoch).length ≤ 32 := by rw [List.length_append]; omega
        cases mk with
        | true =>
          go_wp2
          go_meet
          exact ⟨_, rfl, by rw [if_pos Hp0.out, if_pos trivial, List.append_nil]; exact ho5, by rw [if_pos Hp0.out, if_pos trivial, List.append_nil]; omega, hE5'⟩
        | false =>
          obtain ⟨q0, q1, q2, q3, q4, q5, q6⟩ := (Hp2.out _ hE5').cells
          go_wp2_with fail
          refine (HU.out seq (by omega) _).mono ?_
          rintro e w6 ⟨v6, rfl, ho6, hE6⟩
          have ho6' := ho5.below hE6
          have hs6 := hE6.size
          have hE6' := Ext.trans _ _ _ hE5' hE6
          have hs6' := hE6'.size
          obtain ⟨A7, c7, e7, _, _⟩ := ho6'.slice
          subst e7
          obtain ⟨A6, c6, e6, _, _⟩ := ho6.slice
          subst e6
          clear q0 q1 q2 q3 q4 q5 q6
          generalize hP1 : P0 ++ encN epoch = P1 at *
          have HP1 := Lib.hid hP1
          clear hP1
          go_wp2_with (at_builtin; go_must (refine app_flat kb flat_kb w2.heap.size rfl (.tmp 41) (.tmp 45) 31 5 1 rfl Try.underlying31 info_u8 (.slice A7 P1.length c7) (.slice A6 (encN seq).length c6) P1 (encN seq) (fun _ => False) _ rfl rfl ho6' ho6.sl (by omega) (by simp only [maxLen]; omega) (by omega) ?_; intro v7 w7 ho7 hg7 ha7))
          go_meet
          have hE7 : Ext w2 w7 := hE6'.grown hg7 hE6'.size (fun j hj => (ho6'.at hj).1)
          refine ⟨_, rfl, ?_, ?_, hE7⟩
          · rw [if_pos Hp0.out, if_neg (by decide), ← List.append_assoc, HP1.out]; exact ho7
          · rw [if_pos Hp0.out, if_neg (by decide), List.length_append]; omega
      · have Hp0 := Lib.hid hp0
        go_wp2
        go_meet
        exact ⟨_, rfl, by rw [if_neg (by have := Hp0.out; omega), List.append_nil]; exact Hho.out, by rw [if_neg (by have := Hp0.out; omega)]; exact Nat.zero_le _, hE⟩
    case rest =>
      obtain ⟨l1, hl1, ho1, hll1, hE1⟩ := hcut
      have Hl1 := Lib.hid hl1
      clear hl1 hE hWs Hho k0 k1 k2 k3 k4 k5 k6
      have hs1 := hE1.size
      have hl2 : (P0 ++ l1).length ≤ 42 := by rw [List.length_append]; omega
      obtain ⟨k0, k1, k2, k3, k4, k5, k6⟩ := (Hp2.out _ hE1).cells
      simp only at k0 k1 k2 k3 k4 k5 k6
      generalize hP1 : P0 ++ l1 = P1 at *
      have HP1 := Lib.hid hP1
      clear hP1
      go_wp2_with fail
      refine (HU.out time (by omega) _).mono ?_
      rintro e w3 ⟨v3, rfl, ho3, hE3⟩
      have ho3' := ho1.below hE3
      have hE3' := Ext.trans _ _ _ hE1 hE3
      have hs3' := hE3'.size
      obtain ⟨A5, c5, e5, _, _⟩ := ho3'.slice
      subst e5
      obtain ⟨A3, c3, e3, _, _⟩ := ho3.slice
      subst e3
      clear k0 k1 k2 k3 k4 k5 k6
      go_wp2_with (at_builtin; go_must (refine app_flat kb flat_kb w2.heap.size rfl (.tmp 47) (.tmp 51) 31 5 1 rfl Try.underlying31 info_u8 (.slice A5 P1.length c5) (.slice A3 (encN time).length c3) P1 (encN time) (fun _ => False) _ rfl rfl ho3' ho3.sl (by omega) (by simp only [maxLen]; omega) (by omega) ?_; intro v4 w4 ho4 hg4 ha4; have hE4 : Ext w2 w4 := hE3'.grown hg4 hE3'.size (fun j hj => (ho3'.at hj).1); obtain ⟨k0, k1, k2, k3, k4, k5, k6⟩ := (Hp2.out _ hE4).cells; have Ho4 := Lib.hid (And.intro ho4 hE4); clear ho4 hg4 ha4))
      refine (Hm.out _).mono ?_
      rintro e w5 ⟨rfl, hE5⟩
      clear k0 k1 k2 k3 k4 k5 k6
      have hE5' := Ext.trans _ _ _ Ho4.out.2 hE5
      have ho5 := Ho4.out.1.below hE5
      have hl5 : (P1 ++ encN time).length ≤ 52 := by rw [List.length_append]; omega
      clear Ho4 ho3 ho3' ho1 hE3 hE3'
      cases mk with
      | true =>
        go_wp2
        go_ret2
        refine ⟨_, rfl, ?_, Ext.trans _ _ _ HE2.out hE5'⟩
        rw [Henc.out, ← Hl1.out, if_pos trivial, List.append_nil, ← List.append_assoc, HP1.out]
        exact ho5.lower HE2.out.size
      | false =>
        have Hhd := Lib.hid (show L = (P1 ++ encN time) ++ (encN n ++ encRs (time : Int) ⟨#[]⟩ l) from by
          rw [Henc.out, ← Hl1.out, if_neg (by decide), ← HP1.out]
          simp only [List.append_assoc])
        generalize P1 ++ encN time = P2 at *
        have kwn : IntKind.u64.wrap (n : Int) = n := wraps_u64 _ (by omega) (by omega)
        obtain ⟨k0, k1, k2, k3, k4, k5, k6⟩ := (Hp2.out _ hE5').cells
        simp only at k0 k1 k2 k3 k4 k5 k6
        go_wp2_with fail
        refine (HU.out n (by omega) _).mono ?_
        rintro e w6 ⟨v6, rfl, ho6, hE6⟩
        have ho6' := ho5.below hE6
        have hE6' := Ext.trans _ _ _ hE5' hE6
        have hs6' := hE6'.size
        have hnl2 := (encN_len n (by omega)).2
        obtain ⟨A7, c7, e7, _, _⟩ := ho6'.slice
        subst e7
        obtain ⟨A6, c6, e6, _, _⟩ := ho6.slice
        subst e6
        clear k0 k1 k2 k3 k4 k5 k6
        go_wp2_with (at_builtin; go_must (refine app_flat kb flat_kb w2.heap.size rfl (.tmp 56) (.tmp 61) 31 5 1 rfl Try.underlying31 info_u8 (.slice A7 P2.length c7) (.slice A6 (encN n).length c6) P2 (encN n) (fun _ => False) _ rfl rfl ho6' ho6.sl (by omega) (by simp only [maxLen]; omega) (by omega) ?_; intro v7 w7 ho7 hg7 ha7; have hE7 : Ext w2 w7 := hE6'.grown hg7 hE6'.size (fun j hj => (ho6'.at hj).1); obtain ⟨k0, k1, k2, k3, k4, k5, k6⟩ := (Hp2.out _ hE7).cells; have Ho7 := Lib.hid (And.intro ho7 hE7); clear ho7 hg7 ha7))
        have hE7 := Ho7.out.2
        have hlp : (P2 ++ encN n).length ≤ 62 := by rw [List.length_append]; omega
        have Hhd2 := Lib.hid (show L = (P2 ++ encN n) ++ encRs (time : Int) ⟨#[]⟩ l from by rw [Hhd.out, List.append_assoc])
        have Hln := Lib.hid (fun k => Nat.le_trans (encRs_len (time : Int) ⟨by omega, ht⟩ (l.take k) ⟨#[]⟩ (recsE_take l k Hrs.out)) (Nat.mul_le_mul_left 2200 (List.length_take_le k l)))
        generalize P2 ++ encN n = P3 at *
        clear Hhd k0 k1 k2 k3 k4 k5 k6 ho6 ho6' ho5 hE6 hE6' hE5 hE5' kwn kwt kws kwe
        go_loopw [5, 6, 66] (fun o a i wr => ∃ k : Nat, k ≤ n ∧ i = .int .i64 k ∧ a = .string (lastK ⟨#[]⟩ (l.take k)) ∧ Own kb 5 wr w2.heap.size (fun _ => False) o (P3 ++ encRs (time : Int) ⟨#[]⟩ (l.take k)) ∧ Ext w2 wr) (fun _ _ i _ => n - (intOf i).toNat)
        case atStart => exact ⟨0, Nat.zero_le _, rfl, rfl, by rw [List.take_zero, encRs, List.append_nil]; exact Ho7.out.1, hE7⟩
        case round =>
          obtain ⟨k, hk2, rfl, rfl, ho, hEr⟩ := hrel
          have hEw := Ext.trans _ _ _ HE2.out hEr
          have hsr := hEr.size
          by_cases hlt : k < n
          · have hlt2 : k < l.length := by rw [Hnl.out]; exact hlt
            obtain ⟨ad, rfl, hcc, hro⟩ := rec_at (Hrow.out wr hEw) k hlt2
            have hr0 := recsE_ok Hrs.out l[k] (List.getElem_mem _)
            have Hsn := Lib.hid (show encRs (time : Int) ⟨#[]⟩ (l.take (k + 1)) = encRs (time : Int) ⟨#[]⟩ (l.take k) ++ encR (time : Int) (lastK ⟨#[]⟩ (l.take k)) l[k] from by rw [List.take_succ_eq_append_getElem hlt2, encRs_snoc])
            have Hls := Lib.hid (show lastK ⟨#[]⟩ (l.take (k + 1)) = l[k].1 from by rw [List.take_succ_eq_append_getElem hlt2, lastK_snoc])
            have hak := lastK_size (l.take k) ⟨#[]⟩ (recsE_take l k Hrs.out) (Nat.zero_le _)
            have hln := Hln.out k
            have hrl := encR_len (time : Int) (lastK ⟨#[]⟩ (l.take k)) l[k] hr0 ⟨by omega, ht⟩
            generalize encRs (time : Int) ⟨#[]⟩ (l.take k) = Pk at *
            generalize lastK ⟨#[]⟩ (l.take k) = ak at *
            generalize l[k] = r at *
            obtain ⟨kk, vv, gg, tt⟩ := r
            obtain ⟨c0, c1, c2, c3⟩ := hcc
            obtain ⟨r1, r2, r3, r4, r5⟩ := recE_ok hr0
            simp only at c0 c1 c2 c3 r1 r2 r3 r4 r5 Hls
            have hkn := keyN_le ak kk
            have Hal := Lib.hid (fun W => alike_calls W ak kk (by omega) (by omega))
            have Her := Lib.hid (show encR (time : Int) ak (kk, vv, gg, tt) = [encN (zig (tt - time)), [if gg then 1 else 0], encN (keyN ak kk), encT (kk.extract (keyN ak kk) kk.size)].flatten ++ (if gg then [] else encT vv) from by
              unfold encR
              simp only [cutK_ext, List.flatten_cons, List.flatten_nil, List.append_nil, List.append_assoc])
            have hxs : (kk.extract (keyN ak kk) kk.size).size ≤ 1024 := by rw [ByteArray.size_extract]; omega
            have hxl := encT_size (kk.extract (keyN ak kk) kk.size) (by omega)
            have hvl := encT_size vv (by omega)
            have hil := (encN_len (zig (tt - time)) (zig_lt (by omega))).2
            have hkl := (encN_len (keyN ak kk) (by omega)).2
            generalize encR (time : Int) ak (kk, vv, gg, tt) = Er at *
            generalize keyN ak kk = nk at *
            have hP : (P3 ++ Pk).length ≤ 62 + 2200 * 64 := by rw [List.length_append]; have : (l.take k).length ≤ 64 := by rw [List.length_take]; omega
                                                               omega
            generalize hPg : P3 ++ Pk = P4 at *
            have HPg := Lib.hid hPg
            clear hPg hro hr0 Hln
            obtain ⟨h81, h82, h83⟩ := one_new wr (.cells #[.string kk, .string vv, .bool gg, .int .i64 tt] 54)
            obtain ⟨k0, k1, k2, k3, k4, k5, k6⟩ := (Hp2.out _ hEr).cells
            simp only at k0 k1 k2 k3 k4 k5 k6
            go_wp2_with fail
            refine (Hal.out _).mono ?_
            rintro e w8 ⟨rfl, hD⟩
            clear k0 k1 k2 k3 k4 k5 k6 c0 c1 c2 c3
            have hE8 := Ext.trans _ _ _ h82 hD.below
            have hE28 := Ext.trans _ _ _ hEr hE8
            have Hp8 := Lib.hid (fun W (hE : Ext w8 W) => Hp2.out W (Ext.trans _ _ _ hE28 hE))
            have Hq8 := Lib.hid (fun W (hE : Ext w8 W) => ((Ext.trans _ _ _ hD.below hE).block wr.heap.size (by omega)).trans h81)
            have hat := fun j (hj : u5.ownBlock = some j) => (ho.at hj).2
            have ho8 := ho.below hE8
            obtain ⟨A5, c5, e5, _, _⟩ := ho8.slice
            subst e5
            have hs8 := hE28.size
            have kwx : IntKind.u64.wrap (nk : Int) = nk := wraps_u64 _ (by omega) (by omega)
            have kwd : IntKind.i64.wrap (tt - (time : Int)) = tt - (time : Int) := IntWalk.i64_in _ (by omega)
            have HI := Lib.hid (fun W => Int_calls (tt - time) (by omega) W)
            have HF := Lib.hid (fun W => Flag_calls gg W)
            have HT := Lib.hid (fun W => Text_calls (kk.extract nk kk.size) (by omega) W)
            have HV := Lib.hid (fun W => Text_calls vv (by omega) W)
            have hjl : [encN (zig (tt - time)), [if gg then 1 else 0], encN nk, encT (kk.extract nk kk.size)].flatten.length ≤ 1100 := by
              simp only [List.flatten_cons, List.flatten_nil, List.length_append, List.length_cons, List.length_nil]
              omega
            clear h81 h82 hD
            go_upto_region 18 with fail
            refine wp_region_tail 20 [.eq (.slice A5 P4.length c5), .eq (.pointer (some ⟨wr.heap.size, 3, none⟩)), .eq (.int .i64 tt), .eq (.pointer (some ⟨w.heap.size, 5, none⟩)), .eq (.int .i64 time), .eq (.int .i64 (tt - time)), .sl kb (encN (zig (tt - time))), .eq (.pointer (some ⟨wr.heap.size, 2, none⟩)), .eq (.bool gg), .sl kb [if gg then 1 else 0], .eq (.int .i64 nk), .eq (.int .u64 nk), .sl kb (encN nk), .eq (.pointer (some ⟨wr.heap.size, 0, none⟩)), .eq (.string kk), .eq (.int .i64 nk), .eq (.string (kk.extract nk kk.size)), .sl kb (encT (kk.extract nk kk.size)), .sl (slk kb) [encN (zig (tt - time)), [if gg then 1 else 0], encN nk, encT (kk.extract nk kk.size)], .sl kb [encN (zig (tt - time)), [if gg then 1 else 0], encN nk, encT (kk.extract nk kk.size)].flatten] (by kernel_rfl) (by kernel_rfl) (by kernel_rfl) (by kernel_rfl) (pre_dst (m := 20) (by kernel_rfl)) ?_ ?_
            · refine ⟨?_, ?_, ?_, ?_, ?_, ?_, ?_, ?_, ?_, ?_, ?_, ?_, ?_, ?_, ?_, ?_, ?_, ?_, ?_, ?_, trivial⟩
              · intro S W K hE hf hd hK
                have f5 : S.tmps.getD 5 undef = .slice A5 P4.length c5 := hf 5 (by kernel_rfl)
                refine want_free rfl ?_
                rw [Array.getD_eq_getD_getElem?] at f5
                go_simp
                exact hK _ _ (Ext.refl _) (fun _ => rfl)
              · intro S W K hE hf hd hK
                have f8 : S.tmps.getD 8 undef = .pointer (some ⟨wr.heap.size, 0, none⟩) := hf 8 (by kernel_rfl)
                refine want_free rfl ?_
                rw [Array.getD_eq_getD_getElem?] at f8
                go_simp
                exact hK _ _ (Ext.refl _) (fun _ => rfl)
              · intro S W K hE hf hd hK
                have d75 : S.tmps.getD 75 undef = (.pointer (some ⟨wr.heap.size, 3, none⟩)) := hd 1 _ rfl (by kernel_rfl)
                refine want_free rfl ?_
                rw [Array.getD_eq_getD_getElem?] at d75
                have c3 := (cell_of (Hq8.out W hE) 3).trans rfl
                go_simp
                exact hK _ _ (Ext.refl _) (fun _ => rfl)
              · intro S W K hE hf hd hK
                have f1 : S.tmps.getD 1 undef = .pointer (some ⟨w.heap.size, 0, none⟩) := hf 1 (by kernel_rfl)
                refine want_free rfl ?_
                rw [Array.getD_eq_getD_getElem?] at f1
                go_simp
                exact hK _ _ (Ext.refl _) (fun _ => rfl)
              · intro S W K hE hf hd hK
                have d77 : S.tmps.getD 77 undef = (.pointer (some ⟨w.heap.size, 5, none⟩)) := hd 3 _ rfl (by kernel_rfl)
                refine want_free rfl ?_
                rw [Array.getD_eq_getD_getElem?] at d77
                obtain ⟨k0, k1, k2, k3, k4, k5, k6⟩ := (Hp8.out W hE).cells
                go_simp
                exact hK _ _ (Ext.refl _) (fun _ => rfl)
              · intro S W K hE hf hd hK
                have d76 : S.tmps.getD 76 undef = (.int .i64 tt) := hd 2 _ rfl (by kernel_rfl)
                have d78 : S.tmps.getD 78 undef = (.int .i64 time) := hd 4 _ rfl (by kernel_rfl)
                refine want_free rfl ?_
                rw [Array.getD_eq_getD_getElem?] at d76 d78
                go_simp
                exact hK _ _ (Ext.refl _) (fun _ => rfl)
              · intro S W K hE hf hd hK
                have d79 : S.tmps.getD 79 undef = (.int .i64 (tt - time)) := hd 5 _ rfl (by kernel_rfl)
                refine want_free rfl ?_
                rw [Array.getD_eq_getD_getElem?] at d79
                go_simp
                refine (HI.out W).mono ?_
                rintro e W' ⟨v, rfl, hv, hb⟩
                exact hK _ _ hb (fun _ => IsSl.of hv.sl)
              · intro S W K hE hf hd hK
                have f8 : S.tmps.getD 8 undef = .pointer (some ⟨wr.heap.size, 0, none⟩) := hf 8 (by kernel_rfl)
                refine want_free rfl ?_
                rw [Array.getD_eq_getD_getElem?] at f8
                go_simp
                exact hK _ _ (Ext.refl _) (fun _ => rfl)
              · intro S W K hE hf hd hK
                have d81 : S.tmps.getD 81 undef = (.pointer (some ⟨wr.heap.size, 2, none⟩)) := hd 7 _ rfl (by kernel_rfl)
                refine want_free rfl ?_
                rw [Array.getD_eq_getD_getElem?] at d81
                have c3 := (cell_of (Hq8.out W hE) 2).trans rfl
                go_simp
                exact hK _ _ (Ext.refl _) (fun _ => rfl)
              · intro S W K hE hf hd hK
                have d82 : S.tmps.getD 82 undef = (.bool gg) := hd 8 _ rfl (by kernel_rfl)
                refine want_free rfl ?_
                rw [Array.getD_eq_getD_getElem?] at d82
                go_simp
                refine (HF.out W).mono ?_
                rintro e W' ⟨v, rfl, hv, hb⟩
                exact hK _ _ hb (fun _ => IsSl.of hv.sl)
              · intro S W K hE hf hd hK
                have f9 : S.tmps.getD 9 undef = .int .i64 nk := hf 9 (by kernel_rfl)
                refine want_free rfl ?_
                rw [Array.getD_eq_getD_getElem?] at f9
                go_simp
                exact hK _ _ (Ext.refl _) (fun _ => rfl)
              · intro S W K hE hf hd hK
                have d84 : S.tmps.getD 84 undef = (.int .i64 nk) := hd 10 _ rfl (by kernel_rfl)
                refine want_free rfl ?_
                rw [Array.getD_eq_getD_getElem?] at d84
                go_simp
                exact hK _ _ (Ext.refl _) (fun _ => rfl)
              · intro S W K hE hf hd hK
                have d85 : S.tmps.getD 85 undef = (.int .u64 nk) := hd 11 _ rfl (by kernel_rfl)
                refine want_free rfl ?_
                rw [Array.getD_eq_getD_getElem?] at d85
                go_simp
                refine (HU.out nk (by omega) W).mono ?_
                rintro e W' ⟨v, rfl, hv, hb⟩
                exact hK _ _ hb (fun _ => IsSl.of hv.sl)
              · intro S W K hE hf hd hK
                have f8 : S.tmps.getD 8 undef = .pointer (some ⟨wr.heap.size, 0, none⟩) := hf 8 (by kernel_rfl)
                refine want_free rfl ?_
                rw [Array.getD_eq_getD_getElem?] at f8
                go_simp
                exact hK _ _ (Ext.refl _) (fun _ => rfl)
              · intro S W K hE hf hd hK
                have d87 : S.tmps.getD 87 undef = (.pointer (some ⟨wr.heap.size, 0, none⟩)) := hd 13 _ rfl (by kernel_rfl)
                refine want_free rfl ?_
                rw [Array.getD_eq_getD_getElem?] at d87
                have c3 := (cell_of (Hq8.out W hE) 0).trans rfl
                go_simp
                exact hK _ _ (Ext.refl _) (fun _ => rfl)
              · intro S W K hE hf hd hK
                have f9 : S.tmps.getD 9 undef = .int .i64 nk := hf 9 (by kernel_rfl)
                refine want_free rfl ?_
                rw [Array.getD_eq_getD_getElem?] at f9
                go_simp
                exact hK _ _ (Ext.refl _) (fun _ => rfl)
              · intro S W K hE hf hd hK
                have d88 : S.tmps.getD 88 undef = (.string kk) := hd 14 _ rfl (by kernel_rfl)
                have d89 : S.tmps.getD 89 undef = (.int .i64 nk) := hd 15 _ rfl (by kernel_rfl)
                refine want_free rfl ?_
                rw [Array.getD_eq_getD_getElem?] at d88 d89
                go_simp
                exact hK _ _ (Ext.refl _) (fun _ => rfl)
              · intro S W K hE hf hd hK
                have d90 : S.tmps.getD 90 undef = (.string (kk.extract nk kk.size)) := hd 16 _ rfl (by kernel_rfl)
                refine want_free rfl ?_
                rw [Array.getD_eq_getD_getElem?] at d90
                go_simp
                refine (HT.out W).mono ?_
                rintro e W' ⟨v, rfl, hv, hb⟩
                exact hK _ _ hb (fun _ => IsSl.of hv.sl)
              · intro S W K hE hf hd hK
                obtain ⟨A80, c80, d80, l80, m80, r80⟩ := (show IsSl kb (encN (zig (tt - time))) (S.tmps.getD 80 undef) W from hd 6 _ rfl (by kernel_rfl))
                obtain ⟨A83, c83, d83, l83, m83, r83⟩ := (show IsSl kb [if gg then 1 else 0] (S.tmps.getD 83 undef) W from hd 9 _ rfl (by kernel_rfl))
                obtain ⟨A86, c86, d86, l86, m86, r86⟩ := (show IsSl kb (encN nk) (S.tmps.getD 86 undef) W from hd 12 _ rfl (by kernel_rfl))
                obtain ⟨A91, c91, d91, l91, m91, r91⟩ := (show IsSl kb (encT (kk.extract nk kk.size)) (S.tmps.getD 91 undef) W from hd 17 _ rfl (by kernel_rfl))
                refine want_free rfl ?_
                rw [Array.getD_eq_getD_getElem?] at d80 d83 d86 d91
                go_simp
                exact hK _ _ (Ext.alloc _ _) (fun _ => ⟨some ⟨W.heap.size, 0, none⟩, 4, rfl, by simp, by simp [maxLen], [.slice A80 (encN (zig (tt - time))).length c80, .slice A83 1 c83, .slice A86 (encN nk).length c86, .slice A91 (encT (kk.extract nk kk.size)).length c91], cells_new W _ _ _, ⟨[_], [_, _, _], rfl, rfl, ⟨_, rfl, A80, c80, rfl, l80, m80, (r80.alloc _).lt⟩, [_], [_, _], rfl, rfl, ⟨_, rfl, A83, c83, rfl, l83, m83, (r83.alloc _).lt⟩, [_], [_], rfl, rfl, ⟨_, rfl, A86, c86, rfl, l86, m86, (r86.alloc _).lt⟩, [_], [], rfl, rfl, ⟨_, rfl, A91, c91, rfl, l91, m91, (r91.alloc _).lt⟩, rfl⟩⟩)
              · intro S W K hE hf hd hK
                obtain ⟨A92, c92, d92, l92, m92, r92⟩ := (show IsSl (slk kb) [encN (zig (tt - time)), [if gg then 1 else 0], encN nk, encT (kk.extract nk kk.size)] (S.tmps.getD 92 undef) W from hd 18 _ rfl (by kernel_rfl))
                refine want_free rfl ?_
                rw [Array.getD_eq_getD_getElem?] at d92
                go_simp
                refine (Join_calls A92 c92 [encN (zig (tt - time)), [if gg then 1 else 0], encN nk, encT (kk.extract nk kk.size)] _ W (by simp [maxLen]) (by omega) (fun _ h => h) r92).mono ?_
                rintro e W' ⟨v, rfl, hv, hb⟩
                exact hK _ _ hb (fun _ => IsSl.of hv.sl)
            · intro vs W hE hV
              have v0 : vs 0 = (.slice A5 P4.length c5) := hV 0 _ rfl (fun h => by cases h)
              have v1 : vs 1 = (.pointer (some ⟨wr.heap.size, 3, none⟩)) := hV 1 _ rfl (fun h => by cases h)
              have v2 : vs 2 = (.int .i64 tt) := hV 2 _ rfl (fun h => by cases h)
              have v3 : vs 3 = (.pointer (some ⟨w.heap.size, 5, none⟩)) := hV 3 _ rfl (fun h => by cases h)
              have v4 : vs 4 = (.int .i64 time) := hV 4 _ rfl (fun h => by cases h)
              have v5 : vs 5 = (.int .i64 (tt - time)) := hV 5 _ rfl (fun h => by cases h)
              have v6 := hV 6 _ rfl (fun h => by cases h)
              have v7 : vs 7 = (.pointer (some ⟨wr.heap.size, 2, none⟩)) := hV 7 _ rfl (fun h => by cases h)
              have v8 : vs 8 = (.bool gg) := hV 8 _ rfl (fun h => by cases h)
              have v9 := hV 9 _ rfl (fun h => by cases h)
              have v10 : vs 10 = (.int .i64 nk) := hV 10 _ rfl (fun h => by cases h)
              have v11 : vs 11 = (.int .u64 nk) := hV 11 _ rfl (fun h => by cases h)
              have v12 := hV 12 _ rfl (fun h => by cases h)
              have v13 : vs 13 = (.pointer (some ⟨wr.heap.size, 0, none⟩)) := hV 13 _ rfl (fun h => by cases h)
              have v14 : vs 14 = (.string kk) := hV 14 _ rfl (fun h => by cases h)
              have v15 : vs 15 = (.int .i64 nk) := hV 15 _ rfl (fun h => by cases h)
              have v16 : vs 16 = (.string (kk.extract nk kk.size)) := hV 16 _ rfl (fun h => by cases h)
              have v17 := hV 17 _ rfl (fun h => by cases h)
              have v18 := hV 18 _ rfl (fun h => by cases h)
              have v19 := hV 19 _ rfl (fun h => by cases h)
              clear hV
              set_option maxRecDepth 100000 in simp only [putAll, List.take_succ_cons, List.take_zero, List.drop_succ_cons, List.drop_zero, List.map_cons, List.map_nil, List.length_cons, List.length_nil, Nat.reduceAdd, List.range_succ, List.range_zero, List.nil_append, List.cons_append]
              set_option maxRecDepth 100000 in go_simp
              have hs93 := (show IsSl kb [encN (zig (tt - time)), [if gg then 1 else 0], encN nk, encT (kk.extract nk kk.size)].flatten (vs 19) W from v19)
              clear v0 v1 v2 v3 v4 v5 v6 v7 v8 v9 v10 v11 v12 v13 v14 v15 v16 v17 v18 v19 kwd kwx
              obtain ⟨A9, c9, e9, h9c, h9m, hr9⟩ := hs93
              rw [e9]
              clear e9
              have hE9 := Ext.trans _ _ _ hE28 hE
              have ho9 := ho8.below hE
              have hs9 := hE9.size
              have hsl9 : Sl kb W (fun k => k < W.heap.size) (.slice A9 [encN (zig (tt - time)), [if gg then 1 else 0], encN nk, encT (kk.extract nk kk.size)].flatten.length c9) [encN (zig (tt - time)), [if gg then 1 else 0], encN nk, encT (kk.extract nk kk.size)].flatten := ⟨A9, c9, rfl, h9c, h9m, hr9⟩
              have hq9 := Hq8.out W hE
              generalize [encN (zig (tt - time)), [if gg then 1 else 0], encN nk, encT (kk.extract nk kk.size)].flatten = J at *
              clear ho ho8 h9c h9m hr9 hE hE8 hE28
              have hxl2 : J.length ≤ 1100 := hjl
              have hmeas := Lib.hid (@meas_up k n hlt)
              cases gg with
              | true =>
                go_wp2_with (at_builtin; go_must (refine app_flat kb flat_kb w2.heap.size rfl (.tmp 74) (.tmp 93) 31 5 1 rfl Try.underlying31 info_u8 (.slice A5 P4.length c5) (.slice A9 J.length c9) P4 J (fun _ => False) _ rfl rfl ho9 hsl9 (by omega) (by simp only [maxLen]; omega) (by omega) ?_; intro v10 w10 ho10 hg10 ha10; have hE10 : Ext w2 w10 := hE9.grown hg10 hs9 (fun j hj => (ho9.at hj).1); have hq10 := (hg10.block wr.heap.size (Array.getElem?_eq_some_iff.1 hq9).1 (fun e => absurd (hat _ e.symm) (by omega))).trans hq9; have q2 := (cell_of hq10 2).trans rfl; have q0 := (cell_of hq10 0).trans rfl; have Hq10 := Lib.hid (And.intro hq10 (And.intro ho10 hE10)); have Hat10 := Lib.hid ha10; clear ho10 hg10 ha10 hq10))
                refine ⟨⟨k + 1, hlt, by rw [Int.natCast_succ], by rw [Hls.out], ?_, Hq10.out.2.2⟩, hmeas.out⟩
                rw [Hsn.out, Her.out, if_pos (by trivial), List.append_nil, ← List.append_assoc, HPg.out]
                exact Hq10.out.2.1
              | false =>
                go_wp2_with (at_builtin; go_must (refine app_flat kb flat_kb w2.heap.size rfl (.tmp 74) (.tmp 93) 31 5 1 rfl Try.underlying31 info_u8 (.slice A5 P4.length c5) (.slice A9 J.length c9) P4 J (fun _ => False) _ rfl rfl ho9 hsl9 (by omega) (by simp only [maxLen]; omega) (by omega) ?_; intro v10 w10 ho10 hg10 ha10; have hE10 : Ext w2 w10 := hE9.grown hg10 hs9 (fun j hj => (ho9.at hj).1); have hq10 := (hg10.block wr.heap.size (Array.getElem?_eq_some_iff.1 hq9).1 (fun e => absurd (hat _ e.symm) (by omega))).trans hq9; have q2 := (cell_of hq10 2).trans rfl; have q1 := (cell_of hq10 1).trans rfl; have Hq10 := Lib.hid (And.intro hq10 (And.intro ho10 hE10)); have Hat10 := Lib.hid ha10; clear ho10 hg10 ha10 hq10))
                refine (HV.out _).mono ?_
                rintro e w11 ⟨v11, rfl, ho11, hE11⟩
                have ho11' := Hq10.out.2.1.below hE11
                have hE11' := Ext.trans _ _ _ Hq10.out.2.2 hE11
                have hq11 := (hE11.block wr.heap.size (Array.getElem?_eq_some_iff.1 Hq10.out.1).1).trans Hq10.out.1
                have hs11 := hE11'.size
                have hat11 : ∀ j, v10.ownBlock = some j → j ≠ wr.heap.size := fun j hj => by
                  rcases Hat10.out with h | h
                  · rw [h] at hj
                    have := hat j hj
                    omega
                  · rw [h] at hj
                    injection hj with hj
                    have := (Array.getElem?_eq_some_iff.1 hq9).1
                    omega
                have hJl : (P4 ++ J).length ≤ 62 + 2200 * 64 + 1100 := by rw [List.length_append]; omega
                obtain ⟨A10, c10, e10, _, _⟩ := ho11'.slice
                subst e10
                obtain ⟨A11, c11, e11, _, _⟩ := ho11.slice
                subst e11
                generalize hP5 : P4 ++ J = P5 at *
                have HP5 := Lib.hid hP5
                clear hP5 q2 q1
                go_wp2_with (at_builtin; go_must (refine app_flat kb flat_kb w2.heap.size rfl (.tmp 98) (.tmp 101) 31 5 1 rfl Try.underlying31 info_u8 (.slice A10 P5.length c10) (.slice A11 (encT vv).length c11) P5 (encT vv) (fun _ => False) _ rfl rfl ho11' ho11.sl (by omega) (by simp only [maxLen]; omega) (by omega) ?_; intro v12 w12 ho12 hg12 ha12; have hE12 : Ext w2 w12 := hE11'.grown hg12 hs11 (fun j hj => (ho11'.at hj).1); have hq12 := (hg12.block wr.heap.size (Array.getElem?_eq_some_iff.1 hq11).1 (fun e => absurd rfl (hat11 _ e.symm))).trans hq11; have q0 := (cell_of hq12 0).trans rfl; have Hq12 := Lib.hid (And.intro ho12 hE12); clear ho12 hg12 ha12 hq12))
                refine ⟨⟨k + 1, hlt, by rw [Int.natCast_succ], by rw [Hls.out], ?_, Hq12.out.2⟩, hmeas.out⟩
                rw [Hsn.out, Her.out, if_neg (by decide), ← List.append_assoc, ← List.append_assoc, HPg.out, HP5.out]
                exact Hq12.out.1
          · obtain rfl : k = n := by omega
            have hfin := Lib.hid (show L = P3 ++ encRs (time : Int) ⟨#[]⟩ (l.take k) from by rw [Hhd2.out]; congr 2; rw [← Hnl.out, List.take_length])
            go_wp2
            go_ret2
            refine ⟨_, rfl, ?_, hEw⟩
            rw [hfin.out]
            exact ho.lower HE2.out.size
theorem Encode_calls (w : World) (B : Nat) (hB : B ≤ w.heap.size) (b : BtM) (A : Option Addr) (c : Nat) (h : BtAt w B b A c) :
    Calls Try.prog 22 #[.agg (btC b A c)] w (EncPost w b) := by
  by_cases hv : validE b = 0
  · exact Encode_ok w B hB b A c h hv
  · exact Encode_bad w B hB b A c h hv
end Go.Proofs.Ytaomhedjamnloaa
