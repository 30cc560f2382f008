/- Contracts: frame.First. -/
import Derived.Test.YtkmjcjhnfpkakaaFrame3
import Derived.Deep.DeepCutAuto
set_option linter.unusedVariables false
set_option linter.unusedSimpArgs false
namespace Go.Proofs.Ytkmjcjhnfpkakaa
open Go Go.RowKit

/-- The frame that bytes begin with: its body. -/
def firstO (l : List UInt8) : Option (List UInt8) :=
  if 8 ≤ l.length ∧ num32 l ≤ 262144 ∧ num32 l + 8 ≤ l.length ∧ num32 (l.drop (num32 l + 4)) = (crcSum (l.take (num32 l + 4))).toNat then some ((l.take (num32 l + 4)).drop 4) else none

def FirstPost (e8 : Nat) (w : World) (r : Option (List UInt8)) (e : Ending) (w' : World) : Prop :=
  ∃ v, e = .returned (.tuple #[v, .int .i64 (match r with | none => 0 | some b => (b.length : Int) + 8), .bool r.isSome]) ∧ Own kb e8 w' w.heap.size (fun _ => False) v (r.getD []) ∧ Below w.heap.size w w'

/-- The sum of one row of bytes. -/
theorem Sum1_calls (V : World) (b : Nat) (A : Option Addr) (c : Nat) (l : List UInt8) (F : Nat → Prop) (hc : V.cell? ⟨b, 0, none⟩ = some (.slice A l.length c)) (h1 : l.length ≤ c) (hm : c ≤ maxLen) (hr : Row kb V F A l) :
    Calls Try.prog 12 #[.slice (some ⟨b, 0, none⟩) 1 1] V fun e w' => e = .returned (.int .u32 (crcSum l).toNat) ∧ V = w' := by
  have := Sum_calls (some ⟨b, 0, none⟩) 1 [l] (fun _ => True) V (by simp [maxLen]) ⟨[.slice A l.length c], .inr ⟨_, rfl, trivial, fun j u hj => by
    match j, hj with
    | 0, hj => simp at hj; subst hj; exact hc⟩, Reps.single rfl ⟨_, rfl, A, c, rfl, h1, hm, hr.mono fun _ _ => trivial⟩⟩
  simpa using this

set_option maxHeartbeats 2000000 in
theorem First_calls (A : Option Addr) (c : Nat) (l : List UInt8) (F : Nat → Prop) (w : World) (hl : l.length ≤ 1099511627776) (hc : l.length ≤ c) (hm : c ≤ maxLen) (hr : Row kb w F A l) :
    Calls Try.prog 20 #[.slice A l.length c] w (FirstPost 5 w (firstO l)) := by
  have hm' := hm
  unfold maxLen at hm'
  have hu := u32_uns
  have hno : ∀ w', Own kb 5 w' w.heap.size (fun _ => False) (.slice none 0 0) [] := fun _ => Own.nil _ _ _ _ _
  have Hno := Lib.hid hno
  clear hno
  by_cases h8 : 8 ≤ l.length
  · have hf : firstO l = if num32 l ≤ 262144 ∧ num32 l + 8 ≤ l.length ∧ num32 (l.drop (num32 l + 4)) = (crcSum (l.take (num32 l + 4))).toNat then some ((l.take (num32 l + 4)).drop 4) else none := by
      unfold firstO; simp only [h8, true_and]
    have hnl := num32_lt l
    have hnum := number_calls A c l F
    generalize num32 l = n at *
    by_cases h1 : n ≤ 262144
    · by_cases h2 : n + 8 ≤ l.length
      · simp only [h1, h2, true_and] at hf
        have Hf := Lib.hid hf
        clear hf
        have Hnum := Lib.hid hnum
        clear hnum
        go_enter Try.func20, Try.ntmps20
        go_wp2_with fail
        refine (Hnum.out _ (by omega) (by unfold maxLen; omega) hr).mono ?_
        rintro e w1 ⟨rfl, hd⟩
        have HB := Lib.hid hd.below
        clear hd
        obtain ⟨ad, rfl, _⟩ := hr.u8_at 0 (by omega)
        have n0 : ¬ (n + 4 = c) := by omega
        have hN2 : ∀ W, Row kb W F (some (ad.add ((n + 4) * kb.sz))) (l.drop (n + 4)) → Calls Try.prog 26 #[.slice (some { block := ad.block, off := ad.off + (n + 3 + 1) }) (l.length - (n + 4)) (c - (n + 4))] W fun e w' => e = .returned (.int .u32 (num32 (l.drop (n + 4)))) ∧ Drawn W w' := by
          intro W hW
          have := number_calls _ (c - (n + 4)) (l.drop (n + 4)) F W (by rw [List.length_drop]; omega) (by rw [List.length_drop]; unfold maxLen; omega) hW
          rw [List.length_drop, show kb.sz = 1 from rfl, Nat.mul_one, add_at _ _ (by omega)] at this
          exact this
        have hrd := hr.drop (n + 4)
        have hrt := hr.take (n + 4)
        have htl : (l.take (n + 4)).length = n + 4 := by rw [List.length_take]; omega
        have Htl := Lib.hid htl
        clear htl
        have HN2 := Lib.hid hN2
        clear hN2
        have hS : ∀ V b, V.cell? ⟨b, 0, none⟩ = some (.slice (some ad) (n + 4) c) → Row kb V F (some ad) (l.take (n + 4)) → Calls Try.prog 12 #[.slice (some ⟨b, 0, none⟩) 1 1] V fun e w' => e = .returned (.int .u32 (crcSum (l.take (n + 4))).toNat) ∧ V = w' := by
          intro V b hc1 hrv
          have := Sum1_calls V b (some ad) c (l.take (n + 4)) F (by rw [Htl.out]; exact hc1) (by rw [Htl.out]; omega) hm hrv
          exact this
        have HS := Lib.hid hS
        clear hS
        have hcl : ∀ W, Row kb W F (some (ad.add (4 * kb.sz))) ((l.take (n + 4)).drop 4) → Calls Try.prog 27 #[.slice (some { block := ad.block, off := ad.off + 4 }) n (c - 4)] W fun e w' => ∃ v, e = .returned v ∧ Own kb 5 w' W.heap.size (fun _ => False) v ((l.take (n + 4)).drop 4) ∧ Below W.heap.size W w' := by
          intro W hW
          have hl4 : ((l.take (n + 4)).drop 4).length = n := by rw [List.length_drop, Htl.out]; omega
          have := Clone_calls _ (c - 4) ((l.take (n + 4)).drop 4) F W (by omega) (by omega) (by omega) hW
          rw [hl4, show kb.sz = 1 from rfl, Nat.mul_one, add_at _ _ (by omega)] at this
          exact this
        have hl4 := Lib.hid (show ((((l.take (n + 4)).drop 4).length : Nat) : Int) = n by rw [List.length_drop, Htl.out]; omega)
        have hrd4 := hrt.drop 4
        have Hcl := Lib.hid hcl
        clear hcl
        generalize num32 (l.drop (n + 4)) = y at *
        generalize crcSum (l.take (n + 4)) = x at *
        have hnn : ((n : Int) + 4).toNat = n + 4 := by omega
        go_upto_region 7 with fail
        go_cut [34] (fun t wx => t = .bool (!((y : Int) == (x.toNat : Int))) ∧ Below w.heap.size w wx)
        case first =>
          go_region_with (first
            | (go_at_call 26
               go_must (refine (HN2.out _ ?_).mono ?_
                        focus (repeat (first | apply Row.drew | apply Row.drewN | apply Row.alloc | exact hrd.below HB.out))
                        rintro e w2 ⟨rfl, n2, rfl⟩))
            | (go_at_call 12
               go_must (refine (HS.out _ _ ?_ ?_).mono ?_
                        focus (first | exact cell_new1 _ _ _ _ | exact cell_new2 _ _ _ _ | exact cell_new3 _ _ _ | exact cell_new0 _ _ _)
                        focus (repeat (first | apply Row.drew | apply Row.drewN | apply Row.alloc | exact hrt.below HB.out))
                        rintro e w2 ⟨rfl, rfl⟩)))
          all_goals (go_wp2_with fail; go_meet; exact ⟨rfl, by (repeat (first | exact HB.out | apply blw_drew | apply blw_drewN | apply blw_alloc))⟩)
        case rest =>
          obtain ⟨rfl, HB'⟩ := hcut
          clear HB
          have HB := Lib.hid HB'
          clear HB' HS HN2
          by_cases hyx : y = x.toNat
          · rw [if_pos hyx] at Hf
            have hb1 : (!((y : Int) == (x.toNat : Int))) = false := by rw [hyx]; simp
            rw [hb1]
            clear hyx hb1
            go_wp2_with fail
            refine (Hcl.out _ ?_).mono ?_
            focus (exact hrd4.below HB.out)
            rintro e w7 ⟨v, rfl, hov, hbv⟩
            go_wp2
            go_ret3
            have hb7 := HB.out.trans (hbv.mono HB.out.size)
            exact ⟨v, by rw [Hf.out]; simp only [hl4.out, Option.isSome]; go_num, by rw [Hf.out]; exact hov.lower HB.out.size, hb7⟩
          · rw [if_neg hyx] at Hf
            have hb1 : (!((y : Int) == (x.toNat : Int))) = true := by simp; omega
            rw [hb1]
            clear hyx hb1
            go_wp2
            go_ret3
            exact ⟨_, by rw [Hf.out]; rfl, by rw [Hf.out]; exact Hno.out _, HB.out⟩
      · rw [if_neg (by omega)] at hf
        have Hf := Lib.hid hf
        clear hf
        have Hnum := Lib.hid hnum
        clear hnum
        go_enter Try.func20, Try.ntmps20
        go_wp2_with fail
        refine (Hnum.out _ (by omega) (by unfold maxLen; omega) hr).mono ?_
        rintro e w1 ⟨rfl, hd⟩
        have HB := Lib.hid hd.below
        clear hd
        go_wp2
        go_ret3
        exact ⟨_, by rw [Hf.out]; rfl, by rw [Hf.out]; exact Hno.out _, HB.out⟩
    · rw [if_neg (by omega)] at hf
      have Hf := Lib.hid hf
      clear hf
      have Hnum := Lib.hid hnum
      clear hnum
      go_enter Try.func20, Try.ntmps20
      go_wp2_with fail
      refine (Hnum.out _ (by omega) (by unfold maxLen; omega) hr).mono ?_
      rintro e w1 ⟨rfl, hd⟩
      have HB := Lib.hid hd.below
      clear hd
      go_wp2
      go_ret3
      exact ⟨_, by rw [Hf.out]; rfl, by rw [Hf.out]; exact Hno.out _, HB.out⟩
  · have hf : firstO l = none := by unfold firstO; rw [if_neg (by omega)]
    have Hf := Lib.hid hf
    clear hf
    go_enter Try.func20, Try.ntmps20
    go_wp2
    go_ret3
    exact ⟨_, by rw [Hf.out]; rfl, by rw [Hf.out]; exact Hno.out _, Below.refl _ _⟩
end Go.Proofs.Ytkmjcjhnfpkakaa
