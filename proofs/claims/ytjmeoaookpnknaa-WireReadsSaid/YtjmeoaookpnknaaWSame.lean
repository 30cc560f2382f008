/- Contracts: towpathref01.Same, SameInts, of lists that are the same. -/
import Derived.Test.YtjmeoaookpnknaaWire4
import Derived.Test.YtjmeoaookpnknaaWire1
set_option linter.unusedVariables false
set_option linter.unusedSimpArgs false
namespace Go.Proofs.Ytjmeoaookpnknaa
open Go Go.RowKit

set_option maxRecDepth 8000 in
set_option maxHeartbeats 4000000 in
theorem Same_calls (A : Option Addr) (c : Nat) (A' : Option Addr) (c' : Nat) (l : List ByteArray) (F G : Nat → Prop) (w : World) (hn : l.length ≤ maxLen) (hr : Row str w F A l) (hr' : Row str w G A' l) :
    Calls Try.prog 48 #[.slice A l.length c, .slice A' l.length c'] w fun e w' => e = .returned (.bool true) ∧ Drawn w w' := by
  have hn63 : l.length ≤ 9223372036854775807 := by unfold maxLen at hn; omega
  clear hn
  go_enter Try.func48, Try.ntmps48
  go_wp2_with fail
  go_loopw [13] (fun i w' => ∃ k : Nat, k ≤ l.length ∧ i = .int .i64 k ∧ Drawn w w') (fun i _ => l.length - (intOf i).toNat)
  case atStart => exact ⟨0, by omega, rfl, Drawn.refl _⟩
  case round =>
    obtain ⟨k, hk, rfl, hD⟩ := hrel
    obtain ⟨nd, rfl⟩ := hD
    by_cases hlt : k < l.length
    · obtain ⟨ad, rfl, hcell⟩ := hr.str_at k hlt
      obtain ⟨ad', rfl, hcell'⟩ := hr'.str_at k hlt
      generalize l[k] = s at *
      go_wp2_with fail
      go_quiet (fail)
      go_wp2
      refine ⟨⟨k + 1, hlt, by rw [Int.natCast_succ], _, rfl⟩, ?_⟩
      have e1 : intOf (Value.int .i64 ((k : Int) + 1)) = (k : Int) + 1 := rfl
      have e2 : intOf (Value.int .i64 (k : Int)) = (k : Int) := rfl
      rw [e1, e2]
      omega
    · obtain rfl : k = l.length := by omega
      go_wp2
      go_ret
      exact ⟨rfl, _, rfl⟩
set_option maxRecDepth 8000 in
set_option maxHeartbeats 4000000 in
theorem SameInts_calls (A : Option Addr) (c : Nat) (A' : Option Addr) (c' : Nat) (l : List Int) (F G : Nat → Prop) (w : World) (hn : l.length ≤ maxLen) (hr : Row (num .i64) w F A l) (hr' : Row (num .i64) w G A' l) :
    Calls Try.prog 49 #[.slice A l.length c, .slice A' l.length c'] w fun e w' => e = .returned (.bool true) ∧ Drawn w w' := by
  have hn63 : l.length ≤ 9223372036854775807 := by unfold maxLen at hn; omega
  clear hn
  go_enter Try.func49, Try.ntmps49
  go_wp2_with fail
  go_loopw [13] (fun i w' => ∃ k : Nat, k ≤ l.length ∧ i = .int .i64 k ∧ Drawn w w') (fun i _ => l.length - (intOf i).toNat)
  case atStart => exact ⟨0, by omega, rfl, Drawn.refl _⟩
  case round =>
    obtain ⟨k, hk, rfl, hD⟩ := hrel
    obtain ⟨nd, rfl⟩ := hD
    by_cases hlt : k < l.length
    · obtain ⟨ad, rfl, hcell, hwf⟩ := hr.num_at' k hlt
      obtain ⟨ad', rfl, hcell', _⟩ := hr'.num_at' k hlt
      generalize l[k] = s at *
      go_wp2_with fail
      go_quiet (fail)
      go_wp2
      refine ⟨⟨k + 1, hlt, by rw [Int.natCast_succ], _, rfl⟩, ?_⟩
      have e1 : intOf (Value.int .i64 ((k : Int) + 1)) = (k : Int) + 1 := rfl
      have e2 : intOf (Value.int .i64 (k : Int)) = (k : Int) := rfl
      rw [e1, e2]
      omega
    · obtain rfl : k = l.length := by omega
      go_wp2
      go_ret
      exact ⟨rfl, _, rfl⟩
end Go.Proofs.Ytjmeoaookpnknaa
