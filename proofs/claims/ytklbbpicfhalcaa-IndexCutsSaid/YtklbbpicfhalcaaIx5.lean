/- Contracts: gapped, laid. -/
import Derived.Test.YtklbbpicfhalcaaIx4
set_option linter.unusedVariables false
set_option linter.unusedSimpArgs false
namespace Go.Proofs.Ytklbbpicfhalcaa
open Go Go.RowKit

theorem tmod_abs (x : Int) (n : Nat) (hn : 0 < n) : ∃ k : Nat, k < n ∧ ((x.tmod n < 0 ∧ x.tmod n = -(k : Int) ∧ 0 < k) ∨ (¬ x.tmod n < 0 ∧ x.tmod n = (k : Int))) := by
  have e1 := Int.tmod_lt_of_pos x (show (0 : Int) < n by omega)
  have e2 : -(n : Int) < x.tmod n := by
    have := Int.lt_tmod_of_pos x (show (0 : Int) < n by omega)
    omega
  by_cases hx : x.tmod n < 0
  · exact ⟨(-(x.tmod n)).toNat, by omega, .inl ⟨hx, by omega, by omega⟩⟩
  · exact ⟨(x.tmod n).toNat, by omega, .inr ⟨hx, by omega⟩⟩
/-- The rest, without its sign. -/
def absM (x : Int) (n : Nat) : Nat := (x.tmod n).natAbs
theorem absM_lt (x : Int) (n : Nat) (hn : 0 < n) : absM x n < n := by
  obtain ⟨k, hk, h | h⟩ := tmod_abs x n hn <;> unfold absM <;> omega
set_option maxHeartbeats 2000000 in
theorem gapped_calls (gap : Int) (w : World) : Calls Try.prog 25 #[.int .i64 gap] w fun e w' => e = .returned (.int .i64 ((absM gap 300 : Nat) + 1)) ∧ w = w' := by
  have hl := absM_lt gap 300 (by decide)
  have hcase : (gap.tmod 300 < 0 ∧ gap.tmod 300 = -(absM gap 300 : Int)) ∨ (¬ gap.tmod 300 < 0 ∧ gap.tmod 300 = (absM gap 300 : Int)) := by
    unfold absM
    by_cases h : gap.tmod 300 < 0
    · exact .inl ⟨h, by show gap.tmod 300 = -(((gap.tmod 300).natAbs : Nat) : Int); omega⟩
    · exact .inr ⟨h, by show gap.tmod 300 = (((gap.tmod 300).natAbs : Nat) : Int); omega⟩
  generalize absM gap 300 = k at *
  go_enter Try.func25, Try.ntmps25
  rcases hcase with ⟨h1, h2⟩ | ⟨h1, h2⟩
  · have h3 : (0 : Int) < k := by omega
    clear h1
    go_wp2
    go_ret
    exact ⟨rfl, rfl⟩
  · clear h1
    go_wp2
    go_ret
    exact ⟨rfl, rfl⟩
end Go.Proofs.Ytklbbpicfhalcaa
