/- FrameSums: the walk of the law. -/
import Derived.Test.YtkmjcjhnfpkakaaLaw02b
import Derived.Test.YtkmjcjhnfpkakaaRegion
set_option linter.unusedVariables false
set_option linter.unusedSimpArgs false
namespace Go.Proofs.Ytkmjcjhnfpkakaa
open Go Go.RowKit

theorem flat_le (L : List (List UInt8)) (n : Nat) (h : ∀ x ∈ L, x.length ≤ n) : L.flatten.length ≤ L.length * n := by
  induction L with
  | nil => simp
  | cons x L ih =>
    have h1 := h x (List.mem_cons_self ..)
    have h2 := ih fun y hy => h y (List.mem_cons_of_mem _ hy)
    rw [List.flatten_cons, List.length_append, List.length_cons, Nat.add_mul]
    omega
theorem few_flat (ls : List (List UInt8)) : (fewL ls).flatten.length ≤ 1600 := by
  have h1 := flat_le (fewL ls) 200 (fewL_each ls)
  have h2 := fewL_len ls
  have : (fewL ls).length * 200 ≤ 8 * 200 := Nat.mul_le_mul_right _ h2
  omega

/-- The sum gone on with by one row of bytes. -/
theorem More1_calls (s : UInt32) (V : World) (b : Nat) (A : Option Addr) (c : Nat) (l : List UInt8) (F : Nat → Prop) (hc : V.cell? ⟨b, 0, none⟩ = some (.slice A l.length c)) (h1 : l.length ≤ c) (hm : c ≤ maxLen) (hr : Row kb V F A l) :
    Calls Try.prog 13 #[.int .u32 s.toNat, .slice (some ⟨b, 0, none⟩) 1 1] V fun e w' => e = .returned (.int .u32 (crcMore s l).toNat) ∧ V = w' := by
  have := More_calls s (some ⟨b, 0, none⟩) 1 [l] (fun _ => True) V (by simp [maxLen]) ⟨[.slice A l.length c], .inr ⟨_, rfl, trivial, fun j u hj => by
    match j, hj with
    | 0, hj => simp at hj; subst hj; exact hc⟩, Reps.single rfl ⟨_, rfl, A, c, rfl, h1, hm, hr.mono fun _ _ => trivial⟩⟩
  simpa using this

set_option maxHeartbeats 4000000 in
theorem FrameSums_calls (A : Option Addr) (c : Nat) (ls : List (List UInt8)) (at_ : Int) (w : World) (ha : -9223372036854775808 ≤ at_ ∧ at_ ≤ 9223372036854775807) (hn : ls.length ≤ maxLen) (hr : Row (slk kb) w (fun k => k < w.heap.size) A ls) :
    Calls Try.prog 3 #[.slice A ls.length c, .int .i64 at_] w fun e w' => e = .returned (.bool true) ∧ Below w.heap.size w w' := by
  go_enter Try.func3, Try.ntmps3
  go_wp2_with fail
  refine (few_calls A c ls w hn hr).mono ?_
  rintro e w1 ⟨v1, rfl, ho1, HB⟩
  have hL1 := fewL_len ls
  have hL2 := fewL_each ls
  have hL3 := few_flat ls
  generalize fewL ls = L at *
  obtain ⟨A1, c1, e1, hc1, hm1, hr1⟩ := ho1.lt
  subst e1
  clear ho1
  go_wp2_with fail
  refine (all_calls A1 c1 L w1 hL1 hL2 hr1).mono ?_
  rintro e w2 ⟨v2, rfl, ho2, hb2⟩
  have HB := HB.trans (hb2.mono HB.size)
  have hr1 := (hr1.below hb2).lt
  obtain ⟨A2, c2, e1, hc2, hm2, hr2⟩ := ho2.lt
  subst e1
  clear ho2 hb2
  have Hfl := Lib.hid (show L.flatten = L.flatten from rfl)
  generalize hq : L.flatten = b at *
  have Hq := Lib.hid hq
  clear hq
  go_wp2_with fail
  refine (RSum_calls A2 c2 b w2 (by omega) hc2 hm2 hr2).mono ?_
  rintro e w3 ⟨rfl, hb3⟩
  have HB := HB.trans (hb3.mono HB.size)
  have hr1 := (hr1.below hb3).lt
  have hr2 := (hr2.below hb3).lt
  clear hb3
  have hsum := Sum_calls A1 c1 L _ w3 (by simp only [maxLen]; omega) hr1
  rw [Hq.out] at hsum
  have Hsum := Lib.hid hsum
  clear hsum
  go_wp2_with fail
  refine Hsum.out.mono ?_
  rintro e w4 ⟨rfl, rfl⟩
  go_wp2_with fail
  refine (Sum1_calls _ w3.heap.size A2 c2 b _ (cell_new0 _ _ _) hc2 hm2 (hr2.alloc _)).mono ?_
  rintro e w4 ⟨rfl, rfl⟩
  have hr2 := (hr2.alloc (.cells #[.slice A2 b.length c2] 24)).lt
  have HB := blw_alloc HB (.cells #[.slice A2 b.length c2] 24)
  generalize w3.alloc (.cells #[.slice A2 b.length c2] 24) = w4 at *
  go_upto_if 30 with fail
  go_cut [1] (fun v wx => ∃ p : Nat, p ≤ b.length ∧ v = .int .i64 p ∧ wx = w4)
  case first =>
    have e1 := Int.tmod_lt_of_pos at_ (show (0 : Int) < b.length + 1 by omega)
    have e2 : -((b.length : Int) + 1) < at_.tmod (b.length + 1) := by
      have := Int.lt_tmod_of_pos at_ (show (0 : Int) < b.length + 1 by omega)
      omega
    generalize at_.tmod (b.length + 1) = x at *
    go_wp2
    all_goals go_meet
    · exact ⟨(-x).toNat, by omega, by simp; omega, rfl⟩
    · exact ⟨x.toNat, by omega, by simp; omega, rfl⟩
  case rest =>
    obtain ⟨p, hp, rfl, rfl⟩ := hcut
    go_upto_region 9 with fail
    have hcut1 := fun W => slice_to (P := Try.prog) 24 5 Try.underlying24 (by kernel_rfl) A2 b.length c2 (p : Int) (by omega) (by omega) W .i64
    have hcut2 := fun W => slice_from (P := Try.prog) 24 5 1 Try.underlying24 size_u8 A2 b.length c2 (p : Int) (by omega) (by omega) W .i64
    simp only [Int.toNat_natCast] at hcut1 hcut2
    have ht : (b.take p).length = p := by rw [List.length_take]; omega
    have hd : (b.drop p).length = b.length - p := List.length_drop
    have Ht := Lib.hid ht
    have Hd := Lib.hid hd
    clear ht hd
    refine wp_region_steps [.eq (.slice A2 b.length c2), .eq (.int .i64 p), .eq (.slice A2 p c2), .box (.slice A2 p c2), .eq (.int .u32 (crcSum (b.take p)).toNat), .eq (.slice A2 b.length c2), .eq (.int .i64 p), .eq (.slice (cutA A2 c2 p 1) (b.length - p) (c2 - p)), .box (.slice (cutA A2 c2 p 1) (b.length - p) (c2 - p)), .eq (.int .u32 (crcSum b).toNat), .eq (.int .u32 (crcSum b).toNat), .eq (.bool true), .eq (.bool true), .eq (.int .u32 (crcSum b).toNat), .eq (.int .u32 (crcSum b).toNat), .eq (.int .u32 (crcSum b).toNat), .eq (.bool true), .eq (.bool true), .eq (.bool true), .eq (.bool true), .eq (.bool true), .eq (.bool true)] (by kernel_rfl) (by kernel_rfl) (all_dst (by kernel_rfl)) ?_ ?_
    · refine ⟨?_, ?_, ?_, ?_, ?_, ?_, ?_, ?_, ?_, ?_, ?_, ?_, ?_, ?_, ?_, ?_, ?_, ?_, ?_, ?_, ?_, ?_, trivial⟩
      · intro S W K hE hf hd hK
        have f5 : S.tmps.getD 5 undef = .slice A2 b.length c2 := hf 5 (by kernel_rfl)
        refine want_free rfl ?_
        rw [Array.getD_eq_getD_getElem?] at f5
        go_simp
        exact hK _ _ (Ext.refl _) (fun _ => rfl)
      · intro S W K hE hf hd hK
        have f1 : S.tmps.getD 1 undef = .int .i64 p := hf 1 (by kernel_rfl)
        refine want_free rfl ?_
        rw [Array.getD_eq_getD_getElem?] at f1
        go_simp
        exact hK _ _ (Ext.refl _) (fun _ => rfl)
      · intro S W K hE hf hd hK
        have d33 : S.tmps.getD 33 undef = (.slice A2 b.length c2) := hd 0 _ rfl (by kernel_rfl)
        have d34 : S.tmps.getD 34 undef = (.int .i64 p) := hd 1 _ rfl (by kernel_rfl)
        refine want_free rfl ?_
        rw [Array.getD_eq_getD_getElem?] at d33 d34
        go_simp
        exact hK _ _ (Ext.refl _) (fun _ => rfl)
      · intro S W K hE hf hd hK
        have d35 : S.tmps.getD 35 undef = (.slice A2 p c2) := hd 2 _ rfl (by kernel_rfl)
        refine want_free rfl ?_
        rw [Array.getD_eq_getD_getElem?] at d35
        go_simp
        exact hK _ _ (Ext.alloc _ _) (fun _ => ⟨_, rfl, cell_new0 _ _ _⟩)
      · intro S W K hE hf hd hK
        obtain ⟨g36, d36, c36⟩ : ∃ g, S.tmps.getD 36 undef = .slice (some ⟨g, 0, none⟩) 1 1 ∧ W.cell? ⟨g, 0, none⟩ = some (.slice A2 p c2) := hd 3 _ rfl (by kernel_rfl)
        refine want_free rfl ?_
        rw [Array.getD_eq_getD_getElem?] at d36
        go_simp
        have h37 := Sum1_calls W g36 A2 c2 (b.take p) _ (by rw [Ht.out]; exact c36) (by rw [Ht.out]; omega) hm2 ((hr2.below hE).take p)
        refine h37.mono ?_
        rintro e W' ⟨rfl, rfl⟩
        exact hK _ _ (Ext.refl _) (fun _ => rfl)
      · intro S W K hE hf hd hK
        have f5 : S.tmps.getD 5 undef = .slice A2 b.length c2 := hf 5 (by kernel_rfl)
        refine want_free rfl ?_
        rw [Array.getD_eq_getD_getElem?] at f5
        go_simp
        exact hK _ _ (Ext.refl _) (fun _ => rfl)
      · intro S W K hE hf hd hK
        have f1 : S.tmps.getD 1 undef = .int .i64 p := hf 1 (by kernel_rfl)
        refine want_free rfl ?_
        rw [Array.getD_eq_getD_getElem?] at f1
        go_simp
        exact hK _ _ (Ext.refl _) (fun _ => rfl)
      · intro S W K hE hf hd hK
        have d38 : S.tmps.getD 38 undef = (.slice A2 b.length c2) := hd 5 _ rfl (by kernel_rfl)
        have d39 : S.tmps.getD 39 undef = (.int .i64 p) := hd 6 _ rfl (by kernel_rfl)
        refine want_free rfl ?_
        rw [Array.getD_eq_getD_getElem?] at d38 d39
        go_simp
        exact hK _ _ (Ext.refl _) (fun _ => rfl)
      · intro S W K hE hf hd hK
        have d40 : S.tmps.getD 40 undef = (.slice (cutA A2 c2 p 1) (b.length - p) (c2 - p)) := hd 7 _ rfl (by kernel_rfl)
        refine want_free rfl ?_
        rw [Array.getD_eq_getD_getElem?] at d40
        go_simp
        exact hK _ _ (Ext.alloc _ _) (fun _ => ⟨_, rfl, cell_new0 _ _ _⟩)
      · intro S W K hE hf hd hK
        have d37 : S.tmps.getD 37 undef = (.int .u32 (crcSum (b.take p)).toNat) := hd 4 _ rfl (by kernel_rfl)
        obtain ⟨g41, d41, c41⟩ : ∃ g, S.tmps.getD 41 undef = .slice (some ⟨g, 0, none⟩) 1 1 ∧ W.cell? ⟨g, 0, none⟩ = some (.slice (cutA A2 c2 p 1) (b.length - p) (c2 - p)) := hd 8 _ rfl (by kernel_rfl)
        refine want_free rfl ?_
        rw [Array.getD_eq_getD_getElem?] at d37 d41
        go_simp
        have h42 := More1_calls (crcSum (b.take p)) W g41 (cutA A2 c2 p 1) (c2 - p) (b.drop p) _ (by rw [Hd.out]; exact c41) (by rw [Hd.out]; omega) (by omega) ((hr2.below hE).cut_from c2 p 1 rfl hp hc2)
        refine h42.mono ?_
        rintro e W' ⟨rfl, rfl⟩
        refine hK _ _ (Ext.refl _) (fun _ => ?_)
        have : crcMore (crcSum (b.take p)) (b.drop p) = crcSum b := by unfold crcSum; rw [crcMore_append, List.take_append_drop]
        rw [this]; rfl
      · intro S W K hE hf hd hK
        have f6 : S.tmps.getD 6 undef = .int .u32 (crcSum b).toNat := hf 6 (by kernel_rfl)
        refine want_free rfl ?_
        rw [Array.getD_eq_getD_getElem?] at f6
        go_simp
        exact hK _ _ (Ext.refl _) (fun _ => rfl)
      · intro S W K hE hf hd hK
        have d42 : S.tmps.getD 42 undef = (.int .u32 (crcSum b).toNat) := hd 9 _ rfl (by kernel_rfl)
        have d43 : S.tmps.getD 43 undef = (.int .u32 (crcSum b).toNat) := hd 10 _ rfl (by kernel_rfl)
        refine want_free rfl ?_
        rw [Array.getD_eq_getD_getElem?] at d42 d43
        go_simp
        exact hK _ _ (Ext.refl _) (fun _ => rfl)
      · intro S W K hE hf hd hK
        have d44 : S.tmps.getD 44 undef = (.bool true) := hd 11 _ rfl (by kernel_rfl)
        refine want_free rfl ?_
        rw [Array.getD_eq_getD_getElem?] at d44
        go_simp
        exact hK _ _ (Ext.refl _) (fun _ => rfl)
      · intro S W K hE hf hd hK
        have f6 : S.tmps.getD 6 undef = .int .u32 (crcSum b).toNat := hf 6 (by kernel_rfl)
        have d45 : S.tmps.getD 45 undef = (.bool true) := hd 12 _ rfl (by kernel_rfl)
        refine want_then (t := 45) d45 rfl rfl rfl ?_
        rw [Array.getD_eq_getD_getElem?] at f6 d45
        go_simp
        exact hK _ _ (Ext.refl _) (fun _ => rfl)
      · intro S W K hE hf hd hK
        have d46 : S.tmps.getD 46 undef = (.int .u32 (crcSum b).toNat) := hd 13 _ rfl (by kernel_rfl)
        have d45 : S.tmps.getD 45 undef = (.bool true) := hd 12 _ rfl (by kernel_rfl)
        refine want_then (t := 45) d45 rfl rfl rfl ?_
        rw [Array.getD_eq_getD_getElem?] at d46 d45
        go_simp
        refine (More_calls (crcSum b) none 0 [] (fun _ => True) W (by simp) (Row.nil _ _ _ _)).mono ?_
        rintro e W' ⟨rfl, rfl⟩
        refine hK _ _ (Ext.refl _) (fun _ => ?_)
        rw [show ([] : List (List UInt8)).flatten = [] from rfl, crcMore_nil]; rfl
      · intro S W K hE hf hd hK
        have f6 : S.tmps.getD 6 undef = .int .u32 (crcSum b).toNat := hf 6 (by kernel_rfl)
        have d45 : S.tmps.getD 45 undef = (.bool true) := hd 12 _ rfl (by kernel_rfl)
        refine want_then (t := 45) d45 rfl rfl rfl ?_
        rw [Array.getD_eq_getD_getElem?] at f6 d45
        go_simp
        exact hK _ _ (Ext.refl _) (fun _ => rfl)
      · intro S W K hE hf hd hK
        have d47 : S.tmps.getD 47 undef = (.int .u32 (crcSum b).toNat) := hd 14 _ rfl (by kernel_rfl)
        have d48 : S.tmps.getD 48 undef = (.int .u32 (crcSum b).toNat) := hd 15 _ rfl (by kernel_rfl)
        have d45 : S.tmps.getD 45 undef = (.bool true) := hd 12 _ rfl (by kernel_rfl)
        refine want_then (t := 45) d45 rfl rfl rfl ?_
        rw [Array.getD_eq_getD_getElem?] at d47 d48 d45
        go_simp
        exact hK _ _ (Ext.refl _) (fun _ => rfl)
      · intro S W K hE hf hd hK
        have d45 : S.tmps.getD 45 undef = (.bool true) := hd 12 _ rfl (by kernel_rfl)
        have d49 : S.tmps.getD 49 undef = (.bool true) := hd 16 _ rfl (by kernel_rfl)
        refine want_free rfl ?_
        rw [Array.getD_eq_getD_getElem?] at d45 d49
        go_simp
        exact hK _ _ (Ext.refl _) (fun _ => rfl)
      · intro S W K hE hf hd hK
        have d50 : S.tmps.getD 50 undef = (.bool true) := hd 17 _ rfl (by kernel_rfl)
        refine want_free rfl ?_
        rw [Array.getD_eq_getD_getElem?] at d50
        go_simp
        exact hK _ _ (Ext.refl _) (fun _ => rfl)
      · intro S W K hE hf hd hK
        have d51 : S.tmps.getD 51 undef = (.bool true) := hd 18 _ rfl (by kernel_rfl)
        refine want_then (t := 51) d51 rfl rfl rfl ?_
        rw [Array.getD_eq_getD_getElem?] at d51
        go_simp
        refine (awake_calls W).mono ?_
        rintro e W' ⟨rfl, hb⟩
        exact hK _ _ hb (fun _ => rfl)
      · intro S W K hE hf hd hK
        have d51 : S.tmps.getD 51 undef = (.bool true) := hd 18 _ rfl (by kernel_rfl)
        have d52 : S.tmps.getD 52 undef = (.bool true) := hd 19 _ rfl (by kernel_rfl)
        refine want_free rfl ?_
        rw [Array.getD_eq_getD_getElem?] at d51 d52
        go_simp
        exact hK _ _ (Ext.refl _) (fun _ => rfl)
      · intro S W K hE hf hd hK
        have d53 : S.tmps.getD 53 undef = (.bool true) := hd 20 _ rfl (by kernel_rfl)
        refine want_free rfl ?_
        rw [Array.getD_eq_getD_getElem?] at d53
        go_simp
        exact hK _ _ (Ext.refl _) (fun _ => rfl)
    · intro vs W hE hV
      have v0 : vs 0 = (.slice A2 b.length c2) := hV 0 _ rfl (fun h => by cases h)
      have v1 : vs 1 = (.int .i64 p) := hV 1 _ rfl (fun h => by cases h)
      have v2 : vs 2 = (.slice A2 p c2) := hV 2 _ rfl (fun h => by cases h)
      have v3 := hV 3 _ rfl (fun h => by cases h)
      have v4 : vs 4 = (.int .u32 (crcSum (b.take p)).toNat) := hV 4 _ rfl (fun h => by cases h)
      have v5 : vs 5 = (.slice A2 b.length c2) := hV 5 _ rfl (fun h => by cases h)
      have v6 : vs 6 = (.int .i64 p) := hV 6 _ rfl (fun h => by cases h)
      have v7 : vs 7 = (.slice (cutA A2 c2 p 1) (b.length - p) (c2 - p)) := hV 7 _ rfl (fun h => by cases h)
      have v8 := hV 8 _ rfl (fun h => by cases h)
      have v9 : vs 9 = (.int .u32 (crcSum b).toNat) := hV 9 _ rfl (fun h => by cases h)
      have v10 : vs 10 = (.int .u32 (crcSum b).toNat) := hV 10 _ rfl (fun h => by cases h)
      have v11 : vs 11 = (.bool true) := hV 11 _ rfl (fun h => by cases h)
      have v12 : vs 12 = (.bool true) := hV 12 _ rfl (fun h => by cases h)
      have v13 : vs 13 = (.int .u32 (crcSum b).toNat) := hV 13 _ rfl (fun h => by cases h)
      have v14 : vs 14 = (.int .u32 (crcSum b).toNat) := hV 14 _ rfl (fun h => by cases h)
      have v15 : vs 15 = (.int .u32 (crcSum b).toNat) := hV 15 _ rfl (fun h => by cases h)
      have v16 : vs 16 = (.bool true) := hV 16 _ rfl (fun h => by cases h)
      have v17 : vs 17 = (.bool true) := hV 17 _ rfl (fun h => by cases h)
      have v18 : vs 18 = (.bool true) := hV 18 _ rfl (fun h => by cases h)
      have v19 : vs 19 = (.bool true) := hV 19 _ rfl (fun h => by cases h)
      have v20 : vs 20 = (.bool true) := hV 20 _ rfl (fun h => by cases h)
      have v21 : vs 21 = (.bool true) := hV 21 _ rfl (fun h => by cases h)
      clear hV
      set_option maxRecDepth 100000 in simp only [putAll, List.map_cons, List.map_nil, List.length_cons, List.length_nil, Nat.reduceAdd, List.range_succ, List.range_zero, List.nil_append, List.cons_append]
      set_option maxRecDepth 100000 in go_simp
      go_wp2
      go_ret
      exact ⟨rfl, HB.trans (hE.mono HB.size)⟩
end Go.Proofs.Ytkmjcjhnfpkakaa
