/- The chapter's examples: awake answers true. -/
import Derived.Test.YtkmjcjhnfpkakaaLaw02a
set_option linter.unusedVariables false
set_option linter.unusedSimpArgs false
namespace Go.Proofs.Ytkmjcjhnfpkakaa
open Go Go.RowKit

theorem seal_a : sealO [97] = [1, 0, 0, 0, 97, 99, 143, 247, 193] := by decide +kernel
theorem open_a : openO [1, 0, 0, 0, 97, 99, 143, 247, 193] = some [97] := by decide +kernel
theorem sum_9 : (crcSum [49, 50, 51, 52, 53, 54, 55, 56, 57]).toNat = 3421780262 := by decide +kernel

set_option maxHeartbeats 2000000 in
theorem awake_calls (w : World) :
    Calls Try.prog 14 #[] w fun e w' => e = .returned (.bool true) ∧ Below w.heap.size w w' := by
  have kc := fun (w : World) (C : Array Value) (n c : Nat) => Lib.run_convert_bytes_const (P := Try.prog) w 24 5 C n c Try.underlying24 Try.underlying5
  go_enter Try.func14, Try.ntmps14
  go_wp2_with fail
  have hs1 : (w.alloc (.cells #[.int .u8 97] 5 (1, 2))).heap.size = w.heap.size + 1 := by simp
  have hr0 := row_kb_new w [97] 5 (1, 2)
  have hr1 := row_one_new kb _ _ 1 [97] 24 (0, 0) (by simp) (by simp [maxLen]) hr0
  rw [show (u8s [97]).toArray = #[.int .u8 97] from rfl, hs1] at hr1
  refine (Seal_calls _ 1 [[97]] _ (by simp [maxLen]) (by simp) hr1).mono ?_
  rintro e w1 ⟨vs, rfl, hos, hb⟩
  have HB : Below w.heap.size w w1 := (blw_alloc (blw_alloc (Below.refl _ _) _) _).trans (hb.mono (by simp; omega))
  clear hr0 hr1 hs1
  rw [show [[(97 : UInt8)]].flatten = [97] from rfl, seal_a] at hos
  obtain ⟨As, cs, rfl, hcs, hms⟩ := hos.slice
  obtain ⟨As', cs', e1, _, _, hrs⟩ := hos.lt
  cases e1
  rw [show ([1, 0, 0, 0, 97, 99, 143, 247, 193] : List UInt8).length = 9 from rfl] at *
  go_wp2_with fail
  refine (Open_calls As cs [1, 0, 0, 0, 97, 99, 143, 247, 193] _ _ (by simp) hcs hms hrs).mono ?_
  rintro e w2 ⟨vo, rfl, hoo, hb2⟩
  have HB := HB.trans (hb2.mono HB.size)
  rw [open_a] at hoo ⊢
  simp only [Option.isSome, Option.getD] at hoo ⊢
  have hrs2 := hrs.below hb2
  obtain ⟨Ao, co, rfl, hco, hmo⟩ := hoo.slice
  obtain ⟨Ao', co', e1, _, _, hro⟩ := hoo.lt
  cases e1
  go_wp2_with fail
  have hs1 : (w2.alloc (.cells #[.int .u8 49, .int .u8 50, .int .u8 51, .int .u8 52, .int .u8 53, .int .u8 54, .int .u8 55, .int .u8 56, .int .u8 57] 5 (9, 10))).heap.size = w2.heap.size + 1 := by simp
  have hr0 := row_kb_new w2 [49, 50, 51, 52, 53, 54, 55, 56, 57] 5 (9, 10)
  have hr1 := row_one_new kb _ _ 9 [49, 50, 51, 52, 53, 54, 55, 56, 57] 24 (0, 0) (by simp) (by simp [maxLen]) hr0
  rw [show (u8s [49, 50, 51, 52, 53, 54, 55, 56, 57]).toArray = #[.int .u8 49, .int .u8 50, .int .u8 51, .int .u8 52, .int .u8 53, .int .u8 54, .int .u8 55, .int .u8 56, .int .u8 57] from rfl, hs1] at hr1
  refine (Sum_calls _ 1 [[49, 50, 51, 52, 53, 54, 55, 56, 57]] _ _ (by simp [maxLen]) hr1).mono ?_
  rintro e w3 ⟨rfl, rfl⟩
  have HB2 := blw_alloc (blw_alloc HB (.cells #[.int .u8 49, .int .u8 50, .int .u8 51, .int .u8 52, .int .u8 53, .int .u8 54, .int .u8 55, .int .u8 56, .int .u8 57] 5 (9, 10))) (.cells #[.slice (some ⟨w2.heap.size, 0, none⟩) 9 9] 24)
  have HB3 := blw_alloc (blw_alloc (Below.refl w2.heap.size w2) (.cells #[.int .u8 49, .int .u8 50, .int .u8 51, .int .u8 52, .int .u8 53, .int .u8 54, .int .u8 55, .int .u8 56, .int .u8 57] 5 (9, 10))) (.cells #[.slice (some ⟨w2.heap.size, 0, none⟩) 9 9] 24)
  have hrs3 := hrs2.below HB3
  have hro3 := hro.below HB3
  rw [show [[(49 : UInt8), 50, 51, 52, 53, 54, 55, 56, 57]].flatten = [49, 50, 51, 52, 53, 54, 55, 56, 57] from rfl, sum_9]
  clear hr0 hr1 hs1 HB3 HB kc
  obtain ⟨ad, rfl, g0⟩ := hrs3.u8_at 0 (by simp)
  obtain ⟨_, e1, g5⟩ := hrs3.u8_at 5 (by simp)
  cases e1
  obtain ⟨_, e1, g8⟩ := hrs3.u8_at 8 (by simp)
  cases e1
  have hcv := conv_str hro3 24 9 5 co Try.underlying24 Try.underlying5 Try.underlying9
  generalize (w2.alloc (.cells #[.int .u8 49, .int .u8 50, .int .u8 51, .int .u8 52, .int .u8 53, .int .u8 54, .int .u8 55, .int .u8 56, .int .u8 57] 5 (9, 10))).alloc (.cells #[.slice (some ⟨w2.heap.size, 0, none⟩) 9 9] 24) = w3 at *
  rw [show ad.add 0 = ad from rfl] at g0
  rw [add_at ad 5 (by omega)] at g5
  rw [add_at ad 8 (by omega)] at g8
  simp only [List.getElem_cons_zero, List.getElem_cons_succ] at g0 g5 g8
  rw [show ([97] : List UInt8).length = 1 from rfl, show ([97] : List UInt8).toArray = #[97] from rfl] at hcv
  go_wp2_with fail
  refine (Sum_calls none 0 [] (fun _ => True) _ (by simp) (Row.nil _ _ _ _)).mono ?_
  rintro e w4 ⟨rfl, rfl⟩
  rw [show ((crcSum ([] : List (List UInt8)).flatten).toNat : Int) = 0 from by decide +kernel]
  go_wp2
  go_ret
  exact ⟨rfl, HB2⟩
end Go.Proofs.Ytkmjcjhnfpkakaa
