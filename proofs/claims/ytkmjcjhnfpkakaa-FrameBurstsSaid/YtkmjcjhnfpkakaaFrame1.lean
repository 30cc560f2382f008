/- Contracts of the sums and frames of the program: frame.More, Sum, four, number, bytes.Clone. -/
import Derived.Test.YtkmjcjhnfpkakaaProg
import Derived.Test.YtkmjcjhnfpkakaaBase
import Derived.Test.YtkmjcjhnfpkakaaCrc
import Derived.Outline
import Derived.WideLaws
set_option linter.unusedVariables false
set_option linter.unusedSimpArgs false
namespace Go.Proofs.Ytkmjcjhnfpkakaa
open Go Go.RowKit

theorem u32_uns : (IntKind.u32.signed = true) = False := by simp [IntKind.signed]

set_option maxHeartbeats 1000000 in
theorem More_calls (s : UInt32) (A : Option Addr) (c : Nat) (ls : List (List UInt8)) (F : Nat → Prop) (w : World) (hn : ls.length ≤ maxLen) (hr : Row (slk kb) w F A ls) :
    Calls Try.prog 13 #[.int .u32 s.toNat, .slice A ls.length c] w fun e w' => e = .returned (.int .u32 (crcMore s ls.flatten).toNat) ∧ w = w' := by
  have hns := u32_uns
  unfold maxLen at hn
  go_enter Try.func13, Try.ntmps13
  go_wp2
  rw [not32]
  obtain ⟨t, ht⟩ : ∃ t, t = ~~~ s := ⟨_, rfl⟩
  rw [← ht]
  have Ht := Lib.hid ht
  clear ht
  go_loop [5, 14] (fun s' i => ∃ (k : Nat), k ≤ ls.length ∧ i = .int .i64 k ∧ s' = .int .u32 (crcRaw t (ls.take k).flatten).toNat) (fun _ i => ls.length - (intOf i).toNat)
  case atStart => exact ⟨0, Nat.zero_le _, rfl, rfl⟩
  case round =>
    obtain ⟨k, hk, rfl, rfl⟩ := hrel
    by_cases hlt : k < ls.length
    · obtain ⟨ad, B, cb, rfl, hcell, hB, hm, hrow⟩ := hr.sl_at k hlt
      have hm' : ls[k].length ≤ 9223372036854775807 := by unfold maxLen at hm; omega
      have hfl := Lib.hid (flat_snoc ls k hlt)
      generalize (ls.take k).flatten = pre at *
      go_wp2
      go_loop [5, 20] (fun s' i => ∃ (j : Nat), j ≤ ls[k].length ∧ i = .int .i64 j ∧ s' = .int .u32 (crcRaw t (pre ++ ls[k].take j)).toNat) (fun _ i => ls[k].length - (intOf i).toNat)
      case atStart => exact ⟨0, Nat.zero_le _, rfl, by simp⟩
      case round =>
        obtain ⟨j, hj, rfl, rfl⟩ := hrel
        by_cases hjt : j < ls[k].length
        · obtain ⟨ad', rfl, hc⟩ := hrow.u8_at j hjt
          have hsn := Lib.hid (show crcRaw t (pre ++ ls[k].take (j + 1)) = crcBits 8 (crcRaw t (pre ++ ls[k].take j) ^^^ ls[k][j].toUInt32) by rw [take_snoc _ _ hjt, ← List.append_assoc, crcRaw_snoc])
          generalize crcRaw t (pre ++ ls[k].take j) = y at *
          go_wp2
          rw [wrap32_byte, bits_xor32]
          go_loop [5, 28] (fun s i => ∃ (m : Nat), m ≤ 8 ∧ i = .int .i64 m ∧ s = .int .u32 (crcBits m (y ^^^ ls[k][j].toUInt32)).toNat) (fun _ i => 8 - (intOf i).toNat)
          case atStart => exact ⟨0, by omega, rfl, rfl⟩
          case round =>
            obtain ⟨m, hm8, rfl, rfl⟩ := hrel
            by_cases hmt : m < 8
            · have hcb := Lib.hid (show crcBits (m + 1) (y ^^^ ls[k][j].toUInt32) = crcBit (crcBits m (y ^^^ ls[k][j].toUInt32)) from rfl)
              generalize crcBits m (y ^^^ ls[k][j].toUInt32) = z at *
              go_wp2
              go_round
              case rel => exact ⟨m + 1, hmt, by go_num, by rw [hcb.out, crc_step]⟩
              case measure => simp [intOf]; omega
            · obtain rfl : m = 8 := by omega
              go_wp2
              go_round
              case rel => exact ⟨j + 1, hjt, by go_num, by rw [hsn.out]⟩
              case measure => simp [intOf]; omega
        · obtain rfl : j = ls[k].length := by omega
          go_wp2
          go_round
          case rel => exact ⟨k+1, hlt, by go_num, by rw [hfl.out, List.take_length]⟩
          case measure => simp [intOf]; omega
    · obtain rfl : k = ls.length := by omega
      rw [List.take_length]
      go_wp2
      go_ret
      exact ⟨by rw [not32, Ht.out]; rfl, rfl⟩

set_option maxHeartbeats 1000000 in
theorem Sum_calls (A : Option Addr) (c : Nat) (ls : List (List UInt8)) (F : Nat → Prop) (w : World) (hn : ls.length ≤ maxLen) (hr : Row (slk kb) w F A ls) :
    Calls Try.prog 12 #[.slice A ls.length c] w fun e w' => e = .returned (.int .u32 (crcSum ls.flatten).toNat) ∧ w = w' := by
  go_enter Try.func12, Try.ntmps12
  go_wp2_with fail
  refine (More_calls 0 A c ls F _ hn hr).mono ?_
  rintro e w' ⟨rfl, rfl⟩
  go_wp2
  go_ret
  exact ⟨rfl, rfl⟩
end Go.Proofs.Ytkmjcjhnfpkakaa
