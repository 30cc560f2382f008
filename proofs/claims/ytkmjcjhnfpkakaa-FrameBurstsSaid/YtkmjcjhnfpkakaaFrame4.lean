/- Contracts: frame.First. -/
import Derived.Test.YtkmjcjhnfpkakaaFrame3
import Derived.Test.YtkmjcjhnfpkakaaRegion2
import Derived.IntWalk
import Derived.Deep.DeepCutAuto
set_option linter.unusedVariables false
set_option linter.unusedSimpArgs false
namespace Go.Proofs.Ytkmjcjhnfpkakaa
open Go Go.RowKit

/-- The frame that bytes begin with: its body. -/
def firstO (l : List UInt8) : Option (List UInt8) :=
  if 8 ≤ l.length ∧ num32 l ≤ 262144 ∧ num32 l + 8 ≤ l.length ∧ num32 (l.drop (num32 l + 4)) = (crcSum (l.take (num32 l + 4))).toNat then some ((l.take (num32 l + 4)).drop 4) else none

def FirstPost (e8 : Nat) (w : World) (r : Option (List UInt8)) (e : Ending) (w' : World) : Prop :=
  ∃ v, e = .returned (.tuple #[v, .int .i64 (match r with | none => 0 | some b => (b.length : Int) + 8), .bool r.isSome]) ∧ Own kb e8 w' w.heap.size (fun _ => False) v (r.getD []) ∧ Below w.heap.size w w'

/-- The sum of one row of bytes. -/
theorem Sum1_calls (V : World) (b : Nat) (A : Option Addr) (c : Nat) (l : List UInt8) (F : Nat → Prop) (hc : V.cell? ⟨b, 0, none⟩ = some (.slice A l.length c)) (h1 : l.length ≤ c) (hm : c ≤ maxLen) (hr : Row kb V F A l) :
    Calls Try.prog 12 #[.slice (some ⟨b, 0, none⟩) 1 1] V fun e w' => e = .returned (.int .u32 (crcSum l).toNat) ∧ V = w' := by
  have := Sum_calls (some ⟨b, 0, none⟩) 1 [l] (fun _ => True) V (by simp [maxLen]) ⟨[.slice A l.length c], .inr ⟨_, rfl, trivial, fun j u hj => by
    match j, hj with
    | 0, hj => simp at hj; subst hj; exact hc⟩, Reps.single rfl ⟨_, rfl, A, c, rfl, h1, hm, hr.mono fun _ _ => trivial⟩⟩
  simpa using this

set_option maxHeartbeats 2000000 in
theorem First_calls (A : Option Addr) (c : Nat) (l : List UInt8) (F : Nat → Prop) (w : World) (hl : l.length ≤ 1099511627776) (hc : l.length ≤ c) (hm : c ≤ maxLen) (hr : Row kb w F A l) :
    Calls Try.prog 20 #[.slice A l.length c] w (FirstPost 5 w (firstO l)) := by
  have hm' := hm
  unfold maxLen at hm'
  have hu := u32_uns
  have hno : ∀ w', Own kb 5 w' w.heap.size (fun _ => False) (.slice none 0 0) [] := fun _ => Own.nil _ _ _ _ _
  have Hno := Lib.hid hno
  clear hno
  by_cases h8 : 8 ≤ l.length
  · have hf : firstO l = if num32 l ≤ 262144 ∧ num32 l + 8 ≤ l.length ∧ num32 (l.drop (num32 l + 4)) = (crcSum (l.take (num32 l + 4))).toNat then some ((l.take (num32 l + 4)).drop 4) else none := by
      unfold firstO; simp only [h8, true_and]
    have hnl := num32_lt l
    have hnum := number_calls A c l F
    generalize num32 l = n at *
    by_cases h1 : n ≤ 262144
    · by_cases h2 : n + 8 ≤ l.length
      · simp only [h1, h2, true_and] at hf
        have Hf := Lib.hid hf
        clear hf
        have Hnum := Lib.hid hnum
        clear hnum
        go_enter Try.func20, Try.ntmps20
        go_wp2_with fail
        refine (Hnum.out _ (by omega) (by unfold maxLen; omega) hr).mono ?_
        rintro e w1 ⟨rfl, hd⟩
        have HB := Lib.hid hd.below
        clear hd
        obtain ⟨ad, rfl, _⟩ := hr.u8_at 0 (by omega)
        have n0 : ¬ (n + 4 = c) := by omega
        have hN2 : ∀ W, Row kb W F (cutA (some ad) c (n + 4) 1) (l.drop (n + 4)) → Calls Try.prog 26 #[.slice (cutA (some ad) c (n + 4) 1) (l.length - (n + 4)) (c - (n + 4))] W fun e w' => e = .returned (.int .u32 (num32 (l.drop (n + 4)))) ∧ Drawn W w' := by
          intro W hW
          have := number_calls _ (c - (n + 4)) (l.drop (n + 4)) F W (by rw [List.length_drop]; omega) (by rw [List.length_drop]; unfold maxLen; omega) hW
          rw [List.length_drop] at this
          exact this
        have hrd := hr.cut_from c (n + 4) 1 rfl (by omega) hc
        have hrt := hr.take (n + 4)
        have htl : (l.take (n + 4)).length = n + 4 := by rw [List.length_take]; omega
        have Htl := Lib.hid htl
        clear htl
        have HN2 := Lib.hid hN2
        clear hN2
        have hS : ∀ V b, V.cell? ⟨b, 0, none⟩ = some (.slice (some ad) (n + 4) c) → Row kb V F (some ad) (l.take (n + 4)) → Calls Try.prog 12 #[.slice (some ⟨b, 0, none⟩) 1 1] V fun e w' => e = .returned (.int .u32 (crcSum (l.take (n + 4))).toNat) ∧ V = w' := by
          intro V b hc1 hrv
          have := Sum1_calls V b (some ad) c (l.take (n + 4)) F (by rw [Htl.out]; exact hc1) (by rw [Htl.out]; omega) hm hrv
          exact this
        have HS := Lib.hid hS
        clear hS
        have hcl : ∀ W, Row kb W F (some (ad.add (4 * kb.sz))) ((l.take (n + 4)).drop 4) → Calls Try.prog 27 #[.slice (some { block := ad.block, off := ad.off + 4 }) n (c - 4)] W fun e w' => ∃ v, e = .returned v ∧ Own kb 5 w' W.heap.size (fun _ => False) v ((l.take (n + 4)).drop 4) ∧ Below W.heap.size W w' := by
          intro W hW
          have hl4 : ((l.take (n + 4)).drop 4).length = n := by rw [List.length_drop, Htl.out]; omega
          have := Clone_calls _ (c - 4) ((l.take (n + 4)).drop 4) F W (by omega) (by omega) (by omega) hW
          rw [hl4, show kb.sz = 1 from rfl, Nat.mul_one, add_at _ _ (by omega)] at this
          exact this
        have hl4 := Lib.hid (show ((((l.take (n + 4)).drop 4).length : Nat) : Int) = n by rw [List.length_drop, Htl.out]; omega)
        have hrd4 := hrt.drop 4
        have Hcl := Lib.hid hcl
        clear hcl
        generalize num32 (l.drop (n + 4)) = y at *
        generalize crcSum (l.take (n + 4)) = x at *
        have hnn : ((n : Int) + 4).toNat = n + 4 := by omega
        go_upto_region 7 with fail
        refine wp_region_steps [.eq (.slice (some ad) l.length c), .eq (.int .i64 (n + 4)), .eq (.slice (cutA (some ad) c (n + 4) 1) (l.length - (n + 4)) (c - (n + 4))), .eq (.int .u32 y), .eq (.slice (some ad) l.length c), .eq (.int .i64 (n + 4)), .eq (.slice (some ad) (n + 4) c), .box (.slice (some ad) (n + 4) c), .eq (.int .u32 x.toNat), .eq (.bool (!((y : Int) == (x.toNat : Int))))] (by kernel_rfl) (by kernel_rfl) (all_dst (by kernel_rfl)) ?_ ?_
        · refine ⟨?_, ?_, ?_, ?_, ?_, ?_, ?_, ?_, ?_, ?_, trivial⟩
          · intro S W K hE hf hd hK
            have f0 : S.tmps.getD 0 undef = .slice (some ad) l.length c := hf 0 (by kernel_rfl)
            refine want_free rfl ?_
            rw [Array.getD_eq_getD_getElem?] at f0
            go_simp
            exact hK _ _ (Ext.refl _) (fun _ => rfl)
          · intro S W K hE hf hd hK
            have f6 : S.tmps.getD 6 undef = .int .i64 (n + 4) := hf 6 (by kernel_rfl)
            refine want_free rfl ?_
            rw [Array.getD_eq_getD_getElem?] at f6
            go_simp
            exact hK _ _ (Ext.refl _) (fun _ => rfl)
          · intro S W K hE hf hd hK
            have d25 : S.tmps.getD 25 undef = (.slice (some ad) l.length c) := hd 0 _ rfl (by kernel_rfl)
            have d26 : S.tmps.getD 26 undef = (.int .i64 (n + 4)) := hd 1 _ rfl (by kernel_rfl)
            refine want_free rfl ?_
            rw [Array.getD_eq_getD_getElem?] at d25 d26
            have hcut := slice_from (P := Try.prog) 24 5 1 Try.underlying24 size_u8 (some ad) l.length c ((n : Int) + 4) (by omega) (by omega) W .i64
            rw [hnn] at hcut
            go_simp
            exact hK _ _ (Ext.refl _) (fun _ => rfl)
          · intro S W K hE hf hd hK
            have d27 : S.tmps.getD 27 undef = (.slice (cutA (some ad) c (n + 4) 1) (l.length - (n + 4)) (c - (n + 4))) := hd 2 _ rfl (by kernel_rfl)
            refine want_free rfl ?_
            rw [Array.getD_eq_getD_getElem?] at d27
            go_simp
            refine (HN2.out _ ((hrd.below HB.out).below hE)).mono ?_
            rintro e w2 ⟨rfl, hd2⟩
            exact hK _ _ hd2.below (fun _ => rfl)
          · intro S W K hE hf hd hK
            have f0 : S.tmps.getD 0 undef = .slice (some ad) l.length c := hf 0 (by kernel_rfl)
            refine want_free rfl ?_
            rw [Array.getD_eq_getD_getElem?] at f0
            go_simp
            exact hK _ _ (Ext.refl _) (fun _ => rfl)
          · intro S W K hE hf hd hK
            have f6 : S.tmps.getD 6 undef = .int .i64 (n + 4) := hf 6 (by kernel_rfl)
            refine want_free rfl ?_
            rw [Array.getD_eq_getD_getElem?] at f6
            go_simp
            exact hK _ _ (Ext.refl _) (fun _ => rfl)
          · intro S W K hE hf hd hK
            have d29 : S.tmps.getD 29 undef = (.slice (some ad) l.length c) := hd 4 _ rfl (by kernel_rfl)
            have d30 : S.tmps.getD 30 undef = (.int .i64 (n + 4)) := hd 5 _ rfl (by kernel_rfl)
            refine want_free rfl ?_
            rw [Array.getD_eq_getD_getElem?] at d29 d30
            have hcut := slice_to (P := Try.prog) 24 5 Try.underlying24 (by kernel_rfl) (some ad) l.length c ((n : Int) + 4) (by omega) (by omega) W .i64
            rw [hnn] at hcut
            go_simp
            exact hK _ _ (Ext.refl _) (fun _ => rfl)
          · intro S W K hE hf hd hK
            have d31 : S.tmps.getD 31 undef = (.slice (some ad) (n + 4) c) := hd 6 _ rfl (by kernel_rfl)
            refine want_free rfl ?_
            rw [Array.getD_eq_getD_getElem?] at d31
            go_simp
            exact hK _ _ (Ext.alloc _ _) (fun _ => ⟨_, rfl, cell_new0 _ _ _⟩)
          · intro S W K hE hf hd hK
            obtain ⟨g32, d32, c32⟩ : ∃ g, S.tmps.getD 32 undef = .slice (some ⟨g, 0, none⟩) 1 1 ∧ W.cell? ⟨g, 0, none⟩ = some (.slice (some ad) (n + 4) c) := hd 7 _ rfl (by kernel_rfl)
            refine want_free rfl ?_
            rw [Array.getD_eq_getD_getElem?] at d32
            go_simp
            refine (HS.out _ _ c32 ((hrt.below HB.out).below hE)).mono ?_
            rintro e w2 ⟨rfl, rfl⟩
            exact hK _ _ (Ext.refl _) (fun _ => rfl)
          · intro S W K hE hf hd hK
            have d28 : S.tmps.getD 28 undef = (.int .u32 y) := hd 3 _ rfl (by kernel_rfl)
            have d33 : S.tmps.getD 33 undef = (.int .u32 x.toNat) := hd 8 _ rfl (by kernel_rfl)
            refine want_free rfl ?_
            rw [Array.getD_eq_getD_getElem?] at d28 d33
            go_simp
            exact hK _ _ (Ext.refl _) (fun _ => rfl)
        · intro vs W hE hV
          have v0 : vs 0 = (.slice (some ad) l.length c) := hV 0 _ rfl (fun h => by cases h)
          have v1 : vs 1 = (.int .i64 (n + 4)) := hV 1 _ rfl (fun h => by cases h)
          have v2 : vs 2 = (.slice (cutA (some ad) c (n + 4) 1) (l.length - (n + 4)) (c - (n + 4))) := hV 2 _ rfl (fun h => by cases h)
          have v3 : vs 3 = (.int .u32 y) := hV 3 _ rfl (fun h => by cases h)
          have v4 : vs 4 = (.slice (some ad) l.length c) := hV 4 _ rfl (fun h => by cases h)
          have v5 : vs 5 = (.int .i64 (n + 4)) := hV 5 _ rfl (fun h => by cases h)
          have v6 : vs 6 = (.slice (some ad) (n + 4) c) := hV 6 _ rfl (fun h => by cases h)
          have v7 := hV 7 _ rfl (fun h => by cases h)
          have v8 : vs 8 = (.int .u32 x.toNat) := hV 8 _ rfl (fun h => by cases h)
          have v9 : vs 9 = (.bool (!((y : Int) == (x.toNat : Int)))) := hV 9 _ rfl (fun h => by cases h)
          clear hV
          set_option maxRecDepth 100000 in simp only [putAll, List.map_cons, List.map_nil, List.length_cons, List.length_nil, Nat.reduceAdd, List.range_succ, List.range_zero, List.nil_append, List.cons_append]
          set_option maxRecDepth 100000 in go_simp
          have HB' := Lib.hid (HB.out.trans (hE.mono HB.out.size))
          clear HB v0 v1 v2 v3 v4 v5 v6 v7 v8 v9
          have HB := HB'
          clear HB' HS HN2
          by_cases hyx : y = x.toNat
          · rw [if_pos hyx] at Hf
            have hb1 : (!((y : Int) == (x.toNat : Int))) = false := by rw [hyx]; simp
            rw [hb1]
            clear hyx hb1
            go_wp2_with fail
            refine (Hcl.out _ ?_).mono ?_
            focus (exact hrd4.below HB.out)
            rintro e w7 ⟨v, rfl, hov, hbv⟩
            go_wp2
            go_ret3
            have hb7 := HB.out.trans (hbv.mono HB.out.size)
            exact ⟨v, by rw [Hf.out]; simp only [hl4.out, Option.isSome]; go_num, by rw [Hf.out]; exact hov.lower HB.out.size, hb7⟩
          · rw [if_neg hyx] at Hf
            have hb1 : (!((y : Int) == (x.toNat : Int))) = true := by simp; omega
            rw [hb1]
            clear hyx hb1
            go_wp2
            go_ret3
            exact ⟨_, by rw [Hf.out]; rfl, by rw [Hf.out]; exact Hno.out _, HB.out⟩
      · rw [if_neg (by omega)] at hf
        have Hf := Lib.hid hf
        clear hf
        have Hnum := Lib.hid hnum
        clear hnum
        go_enter Try.func20, Try.ntmps20
        go_wp2_with fail
        refine (Hnum.out _ (by omega) (by unfold maxLen; omega) hr).mono ?_
        rintro e w1 ⟨rfl, hd⟩
        have HB := Lib.hid hd.below
        clear hd
        go_wp2
        go_ret3
        exact ⟨_, by rw [Hf.out]; rfl, by rw [Hf.out]; exact Hno.out _, HB.out⟩
    · rw [if_neg (by omega)] at hf
      have Hf := Lib.hid hf
      clear hf
      have Hnum := Lib.hid hnum
      clear hnum
      go_enter Try.func20, Try.ntmps20
      go_wp2_with fail
      refine (Hnum.out _ (by omega) (by unfold maxLen; omega) hr).mono ?_
      rintro e w1 ⟨rfl, hd⟩
      have HB := Lib.hid hd.below
      clear hd
      go_wp2
      go_ret3
      exact ⟨_, by rw [Hf.out]; rfl, by rw [Hf.out]; exact Hno.out _, HB.out⟩
  · have hf : firstO l = none := by unfold firstO; rw [if_neg (by omega)]
    have Hf := Lib.hid hf
    clear hf
    go_enter Try.func20, Try.ntmps20
    go_wp2
    go_ret3
    exact ⟨_, by rw [Hf.out]; rfl, by rw [Hf.out]; exact Hno.out _, Below.refl _ _⟩
end Go.Proofs.Ytkmjcjhnfpkakaa
