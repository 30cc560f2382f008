/- FrameMost: the walk of the law. -/
import Derived.Test.YtkmjcjhnfpkakaaLawSeals
import Derived.Deep.OwnRows
set_option linter.unusedVariables false
set_option linter.unusedSimpArgs false
namespace Go.Proofs.Ytkmjcjhnfpkakaa
open Go Go.RowKit

theorem first_cut {b : List UInt8} (hb : b.length ≤ 262144) : firstO ((sealB b).take (b.length + 7)) = none := by
  have hlen : (sealB b).length = b.length + 8 := by simp [sealB, le32_length]; omega
  have e1 : num32 ((sealB b).take (b.length + 7)) = num32 (sealB b) := by
    rw [← num32_take, List.take_take, Nat.min_eq_left (by omega), num32_take]
  have e2 : num32 (sealB b) = b.length := by
    unfold sealB
    rw [List.append_assoc]
    exact num32_le32 _ (by omega) _
  unfold firstO
  rw [e1, e2, if_neg]
  intro h
  rw [List.length_take, hlen] at h
  omega
theorem madeCells_u8 (n : Nat) : madeCells #[.int .u8 0] n = (u8s (List.replicate n 0)).toArray := by
  apply Array.toList_inj.1
  rw [toList_madeCells_one]
  simp [u8s]
/-- make([]byte, n). -/
theorem make_u8 {P : Program} {ops : Array Oper} {rest : List Oper} {o : Oper} {a : Act} {Q : Exit → Act → World → Prop} {w : World} (hgd : o.guard = none) (t e : TypeId) (kl kc : IntKind) (l c : Operand) (n : Nat)
    (ho : o.op = .makeSlice t l c) (hl0 : a.eval l = .int kl (n : Int)) (hc0 : a.eval c = .int kc (n : Int))
    (ht : P.underlying t = some (.slice e)) (hi : (P.info? e).map (fun i => (i.zero, i.size, i.bytes)) = some (some (.int .u8 0), 1, 1)) (hl : n ≤ 281474976710656)
    (h : ∀ g (b : List UInt8) w1, b.length = n → Row kb w1 (fun k => k < w1.heap.size) (some ⟨g, 0, none⟩) b → Ext w w1 → wpList P ops Q rest (a.put o.dst (.slice (some ⟨g, 0, none⟩) n n)) w1) :
    wpList P ops Q (o :: rest) a w := by
  obtain ⟨i, hi1, hi2⟩ := Option.map_eq_some_iff.1 hi
  simp only [Prod.mk.injEq] at hi2
  obtain ⟨hz, hsz, hby⟩ := hi2
  refine Go.wpList_make_row w hgd l c t ho e i (.int .u8 0) ht hi1 hz hsz rfl kl kc n hl0 hc0 (by rw [hby]; omega) (by omega) ?_
  rw [madeCells_u8]
  exact h _ (List.replicate n 0) _ List.length_replicate (row_kb_new _ _ _ _) (Ext.alloc _ _)
theorem info_u8z : (Try.prog.info? 5).map (fun i => (i.zero, i.size, i.bytes)) = some (some (.int .u8 0), 1, 1) := by kernel_rfl

set_option maxRecDepth 4000 in
set_option maxHeartbeats 8000000 in
theorem FrameMost_calls (over cut : Int) (w : World) (ha : -9223372036854775808 ≤ over ∧ over ≤ 9223372036854775807) (hc : -9223372036854775808 ≤ cut ∧ cut ≤ 9223372036854775807) :
    Calls Try.prog 6 #[.int .i64 over, .int .i64 cut] w fun e w' => e = .returned (.bool true) ∧ Below w.heap.size w w' := by
  go_enter Try.func6, Try.ntmps6
  have e1 := Int.tmod_lt_of_pos over (show (0 : Int) < 40 by omega)
  have e2 : -40 < over.tmod 40 := by
    have := Int.lt_tmod_of_pos over (show (0 : Int) < 40 by omega)
    omega
  obtain ⟨n, hn⟩ : ∃ n : Nat, 262144 + over.tmod 40 = (n : Int) := ⟨(262144 + over.tmod 40).toNat, by omega⟩
  obtain ⟨x, hx⟩ : ∃ x : Int, over.tmod 40 = x := ⟨_, rfl⟩
  rw [hx] at e1 e2 hn
  have hx1 : x ≤ 40 := by omega
  have hx2 : -40 ≤ x := by omega
  clear e1 e2
  go_upto_if 22 with (refine make_u8 rfl 24 5 .i64 .i64 (.tmp 15) (.tmp 15) n rfl rfl rfl Try.underlying24 info_u8z (by omega) ?_; intro g b w1 hbl hr HB)
  subst hbl
  go_cut [1] (fun v wx => ∃ p : Nat, p ≤ b.length ∧ v = .int .i64 p ∧ wx = w1)
  case first =>
    have e1 := Int.tmod_lt_of_pos cut (show (0 : Int) < b.length by omega)
    have e2 : -(b.length : Int) < cut.tmod b.length := by
      have := Int.lt_tmod_of_pos cut (show (0 : Int) < b.length by omega)
      omega
    generalize cut.tmod b.length = y at *
    go_wp2
    all_goals go_meet
    · exact ⟨(-y).toNat, by omega, by simp; omega, rfl⟩
    · exact ⟨y.toNat, by omega, by simp; omega, rfl⟩
  case rest =>
    obtain ⟨p, hp, rfl, rfl⟩ := hcut
    have HB : Below w.heap.size w wc := HB
    go_upto_region 6 with fail
    have hcut1 := fun W => slice_to (P := Try.prog) 24 5 Try.underlying24 (by kernel_rfl) (some ⟨g, 0, none⟩) b.length b.length (p : Int) (by omega) (by omega) W .i64
    have hcut2 := fun W => slice_from (P := Try.prog) 24 5 1 Try.underlying24 size_u8 (some ⟨g, 0, none⟩) b.length b.length (p : Int) (by omega) (by omega) W .i64
    simp only [Int.toNat_natCast] at hcut1 hcut2
    have ht : (b.take p).length = p := by rw [List.length_take]; omega
    have hd : (b.drop p).length = b.length - p := List.length_drop
    have Ht := Lib.hid ht
    have Hd := Lib.hid hd
    have Hq := Lib.hid (show [b.take p, [], b.drop p].flatten = b by simp [List.flatten, List.take_append_drop])
    clear ht hd
    refine wp_region_steps [.eq (.slice (some ⟨g, 0, none⟩) b.length b.length), .eq (.int .i64 p), .eq (.slice (some ⟨g, 0, none⟩) p b.length), .eq (.slice (some ⟨g, 0, none⟩) b.length b.length), .eq (.int .i64 p), .eq (.slice (cutA (some ⟨g, 0, none⟩) b.length p 1) (b.length - p) (b.length - p)), .sl (slk kb) [b.take p, [], b.drop p], .sl kb (sealO b), .sl kb (sealO b)] (by kernel_rfl) (by kernel_rfl) (all_dst (by kernel_rfl)) ?_ ?_
    · refine ⟨?_, ?_, ?_, ?_, ?_, ?_, ?_, ?_, ?_, trivial⟩
      · intro S W K hE hf hd hK
        have f5 : S.tmps.getD 5 undef = .slice (some ⟨g, 0, none⟩) b.length b.length := hf 5 (by kernel_rfl)
        refine want_free rfl ?_
        rw [Array.getD_eq_getD_getElem?] at f5
        go_simp
        exact hK _ _ (Ext.refl _) (fun _ => rfl)
      · intro S W K hE hf hd hK
        have f1 : S.tmps.getD 1 undef = .int .i64 p := hf 1 (by kernel_rfl)
        refine want_free rfl ?_
        rw [Array.getD_eq_getD_getElem?] at f1
        go_simp
        exact hK _ _ (Ext.refl _) (fun _ => rfl)
      · intro S W K hE hf hd hK
        have d25 : S.tmps.getD 25 undef = (.slice (some ⟨g, 0, none⟩) b.length b.length) := hd 0 _ rfl (by kernel_rfl)
        have d26 : S.tmps.getD 26 undef = (.int .i64 p) := hd 1 _ rfl (by kernel_rfl)
        refine want_free rfl ?_
        rw [Array.getD_eq_getD_getElem?] at d25 d26
        go_simp
        exact hK _ _ (Ext.refl _) (fun _ => rfl)
      · intro S W K hE hf hd hK
        have f5 : S.tmps.getD 5 undef = .slice (some ⟨g, 0, none⟩) b.length b.length := hf 5 (by kernel_rfl)
        refine want_free rfl ?_
        rw [Array.getD_eq_getD_getElem?] at f5
        go_simp
        exact hK _ _ (Ext.refl _) (fun _ => rfl)
      · intro S W K hE hf hd hK
        have f1 : S.tmps.getD 1 undef = .int .i64 p := hf 1 (by kernel_rfl)
        refine want_free rfl ?_
        rw [Array.getD_eq_getD_getElem?] at f1
        go_simp
        exact hK _ _ (Ext.refl _) (fun _ => rfl)
      · intro S W K hE hf hd hK
        have d28 : S.tmps.getD 28 undef = (.slice (some ⟨g, 0, none⟩) b.length b.length) := hd 3 _ rfl (by kernel_rfl)
        have d29 : S.tmps.getD 29 undef = (.int .i64 p) := hd 4 _ rfl (by kernel_rfl)
        refine want_free rfl ?_
        rw [Array.getD_eq_getD_getElem?] at d28 d29
        go_simp
        exact hK _ _ (Ext.refl _) (fun _ => rfl)
      · intro S W K hE hf hd hK
        have d27 : S.tmps.getD 27 undef = (.slice (some ⟨g, 0, none⟩) p b.length) := hd 2 _ rfl (by kernel_rfl)
        have d30 : S.tmps.getD 30 undef = (.slice (cutA (some ⟨g, 0, none⟩) b.length p 1) (b.length - p) (b.length - p)) := hd 5 _ rfl (by kernel_rfl)
        refine want_free rfl ?_
        rw [Array.getD_eq_getD_getElem?] at d27 d30
        go_simp
        refine hK _ _ (Ext.alloc _ _) (fun _ => ⟨some ⟨W.heap.size, 0, none⟩, 3, rfl, by simp, by simp [maxLen], ?_⟩)
        have hrW := (hr.below hE).lt
        refine ⟨[.slice (some ⟨g, 0, none⟩) p b.length, .slice none 0 0, .slice (cutA (some ⟨g, 0, none⟩) b.length p 1) (b.length - p) (b.length - p)], cells_new W _ _ _, ?_⟩
        refine ⟨[_], [_, _], rfl, rfl, ⟨_, rfl, some ⟨g, 0, none⟩, b.length, by rw [Ht.out], by rw [Ht.out]; exact hp, by simp only [maxLen]; omega, ((hrW.take p).alloc _).lt⟩, [_], [_], rfl, rfl, ⟨_, rfl, none, 0, rfl, Nat.le_refl _, Nat.zero_le _, Row.nil _ _ _ _⟩, [_], [], rfl, rfl, ⟨_, rfl, cutA (some ⟨g, 0, none⟩) b.length p 1, b.length - p, by rw [Hd.out], by rw [Hd.out]; exact Nat.le_refl _, by simp only [maxLen]; omega, ((hrW.cut_from b.length p 1 rfl hp (Nat.le_refl _)).alloc _).lt⟩, rfl⟩
      · intro S W K hE hf hd hK
        obtain ⟨A31, c31, d31, l31, m31, r31⟩ := (show IsSl (slk kb) [b.take p, [], b.drop p] (S.tmps.getD 31 undef) W from hd 6 _ rfl (by kernel_rfl))
        refine want_free rfl ?_
        rw [Array.getD_eq_getD_getElem?] at d31
        go_simp
        have h32 := Seal_calls A31 c31 [b.take p, [], b.drop p] W (by simp [maxLen]) (by
          intro z hz
          simp only [List.mem_cons, List.not_mem_nil, or_false] at hz
          rcases hz with rfl | rfl | rfl
          · rw [Ht.out]; omega
          · simp
          · rw [Hd.out]; omega) r31
        rw [Hq.out] at h32
        refine h32.mono ?_
        rintro e W' ⟨v, rfl, hov, hb⟩
        exact hK _ _ hb (fun _ => IsSl.of hov.sl)
      · intro S W K hE hf hd hK
        obtain ⟨A32, c32, d32, l32, m32, r32⟩ := (show IsSl kb (sealO b) (S.tmps.getD 32 undef) W from hd 7 _ rfl (by kernel_rfl))
        refine want_free rfl ?_
        rw [Array.getD_eq_getD_getElem?] at d32
        go_simp
        exact hK _ _ (Ext.refl _) (fun _ => ⟨A32, c32, rfl, l32, m32, r32⟩)
    · intro vs W hE hV
      have v0 : vs 0 = (.slice (some ⟨g, 0, none⟩) b.length b.length) := hV 0 _ rfl (fun h => by cases h)
      have v1 : vs 1 = (.int .i64 p) := hV 1 _ rfl (fun h => by cases h)
      have v2 : vs 2 = (.slice (some ⟨g, 0, none⟩) p b.length) := hV 2 _ rfl (fun h => by cases h)
      have v3 : vs 3 = (.slice (some ⟨g, 0, none⟩) b.length b.length) := hV 3 _ rfl (fun h => by cases h)
      have v4 : vs 4 = (.int .i64 p) := hV 4 _ rfl (fun h => by cases h)
      have v5 : vs 5 = (.slice (cutA (some ⟨g, 0, none⟩) b.length p 1) (b.length - p) (b.length - p)) := hV 5 _ rfl (fun h => by cases h)
      have v6 := hV 6 _ rfl (fun h => by cases h)
      have v7 := hV 7 _ rfl (fun h => by cases h)
      have v8 := hV 8 _ rfl (fun h => by cases h)
      clear hV
      set_option maxRecDepth 100000 in simp only [putAll, List.map_cons, List.map_nil, List.length_cons, List.length_nil, Nat.reduceAdd, List.range_succ, List.range_zero, List.nil_append, List.cons_append]
      set_option maxRecDepth 100000 in go_simp
      have HB6 := HB.trans (hE.mono HB.size)
      have hrW := (hr.below hE).lt
      clear v0 v1 v2 v3 v4 v5 v6 v7 hr hE hcut1 hcut2
      obtain ⟨A6, c6, e6, hl6, hm6, hr6⟩ := v8
      rw [e6]
      clear e6
      by_cases hx0 : 0 < x
      · have hso : sealO b = [] := if_neg (by omega)
        rw [hso] at *
        simp only [List.length_nil] at *
        go_wp2_with fail
        refine (awake_calls W).mono ?_
        rintro e w9 ⟨rfl, hb9⟩
        go_wp2
        go_ret
        exact ⟨rfl, HB6.trans (hb9.mono HB6.size)⟩
      · have hso : sealO b = sealB b := if_pos (by omega)
        have hbl : b.length ≤ 262144 := by omega
        have Hop := Lib.hid (hso ▸ open_seal hbl)
        have Hfc := Lib.hid (first_cut hbl)
        have hsl : (sealB b).length = b.length + 8 := by simp [sealB, le32_length]; omega
        rw [hso] at hl6 hr6 ⊢
        clear hso
        generalize sealB b = s at *
        have Hsl := Lib.hid hsl
        have hs1 : 1 ≤ s.length := by omega
        have hs2 : s.length ≤ 262200 := by omega
        have hq1 : ((s.length : Int) == (b.length : Int) + 8) = true := by simp; omega
        clear hsl
        have hcut3 := fun W => slice_to (P := Try.prog) 24 5 Try.underlying24 (by kernel_rfl) A6 s.length c6 ((s.length : Int) - 1) (by omega) (by omega) W .i64
        have ht1 : ((s.length : Int) - 1).toNat = s.length - 1 := by omega
        simp only [ht1] at hcut3
        clear ht1
        go_wp2_with fail
        refine (Open_calls A6 c6 s _ W (by omega) hl6 hm6 hr6).mono ?_
        rintro e w7 ⟨vx, rfl, hox, hb7⟩
        rw [Hop.out] at hox ⊢
        have HB7 := HB6.trans (hb7.mono HB6.size)
        have hr7 := (hr6.below hb7).lt
        simp only [Option.isSome, Option.getD] at hox ⊢
        obtain ⟨Ax, cx, e1, hcx, hmx⟩ := hox.slice
        subst e1
        have htl : (s.take (s.length - 1)).length = s.length - 1 := by rw [List.length_take]; omega
        have Hfc2 := Lib.hid (show firstO (s.take (s.length - 1)) = none by rw [show s.length - 1 = b.length + 7 by have := Hsl.out; omega]; exact Hfc.out)
        have hcall := First_calls A6 c6 (s.take (s.length - 1)) _ w7 (by omega) (by omega) hm6 (hr7.take _)
        rw [htl] at hcall
        have Hcall := Lib.hid hcall
        clear hcall htl
        go_wp2_with fail
        refine Hcall.out.mono ?_
        rintro e w8 ⟨vy, rfl, hoy, hb8⟩
        rw [Hfc2.out]
        have HB8 := HB7.trans (hb8.mono HB7.size)
        simp only [Option.isSome]
        go_wp2_with fail
        refine (awake_calls w8).mono ?_
        rintro e w9 ⟨rfl, hb9⟩
        go_wp2
        go_ret
        exact ⟨rfl, HB8.trans (hb9.mono HB8.size)⟩
end Go.Proofs.Ytkmjcjhnfpkakaa

