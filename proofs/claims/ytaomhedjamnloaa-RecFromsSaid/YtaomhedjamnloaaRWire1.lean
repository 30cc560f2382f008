/- Contracts of the document's writers: towpathref01.Uint, Int, Text, Flag, Texts, Ints. -/
import Derived.Test.YtaomhedjamnloaaWire1
set_option linter.unusedVariables false
set_option linter.unusedSimpArgs false
namespace Go.Proofs.Ytaomhedjamnloaa
open Go Go.RowKit

set_option maxRecDepth 8000 in
set_option maxHeartbeats 4000000 in
theorem RUint_calls : ∀ (n : Nat), n < 18446744073709551616 → ∀ (w : World),
    Calls Try.prog 52 #[.int .u64 n] w (ToldPost w (encN n)) := by
  intro n
  induction n using Nat.strongRecOn with
  | ind n ih =>
  intro hn w
  by_cases hbig : 128 ≤ n
  · have hih := ih (n / 128) (by omega) (by omega)
    rw [← u64_shr7] at hih
    have Hih := Lib.hid hih
    clear hih ih
    have He := Lib.hid (encN_big hbig)
    have hl := (encN_len (n / 128) (by omega)).2
    have hlit := Own.lit (d := kb) (e := 5) w (Nat.le_refl _) (F := fun _ => False) [.int .u8 ((n % 128 + 128 : Nat) : Int)] [UInt8.ofNat (n % 128 + 128)] 1 rfl (by decide) (Reps.single rfl (kb_one _ _ _ (by omega)))
    have hw8 : IntKind.u8.wrap ((n : Int) % 128 + 128) = ((n % 128 + 128 : Nat) : Int) := by rw [IntKind.wrap_u8]; omega
    have hE0 : Below w.heap.size w (w.alloc (.cells #[.int .u8 ((n % 128 + 128 : Nat) : Int)] 5)) := (Below.refl _ _).alloc (Nat.le_refl _) _
    have Hlit := Lib.hid hlit
    clear hlit
    rw [He.out]
    go_enter Try.func52, Try.ntmps52
    go_wp2_with fail
    refine (Hih.out _).mono ?_
    rintro e w2 ⟨v2, rfl, ho2, hE2⟩
    have hE2' := Below.trans hE0 (Below.mono hE2 hE0.size)
    have hsz := hE2'.size
    have ho1 := Hlit.out.below hE2
    obtain ⟨A4, c4, e4, _, _⟩ := ho2.slice
    subst e4
    have hrow := fun j (hj : (Value.slice (some ⟨w.heap.size, 0, none⟩) 1 1).ownBlock = some j) => (ho1.at hj).1
    generalize encN (n / 128) = q at *
    go_wp2_with (at_builtin; go_must (refine app_flat kb flat_kb w.heap.size rfl (.tmp 14) (.tmp 17) 31 5 1 rfl Try.underlying31 info_u8 (.slice (some ⟨w.heap.size, 0, none⟩) 1 1) (.slice A4 q.length c4) [UInt8.ofNat (n % 128 + 128)] q (fun _ => False) _ rfl rfl ho1 ho2.sl (by simp only [List.length_singleton]; omega) (by simp only [List.length_singleton, maxLen]; omega) (by omega) ?_; intro v4 w4 ho4 hg4 ha4))
    go_ret
    exact .of ho4 (hE2'.grown hg4 hsz hrow)
  · have He := Lib.hid (encN_small (show n < 128 by omega))
    have Hlit := Lib.hid (Own.lit (d := kb) (e := 5) w (Nat.le_refl _) (F := fun _ => False) [.int .u8 (n : Int)] [UInt8.ofNat n] 1 rfl (by decide) (Reps.single rfl (kb_one _ _ _ (by omega))))
    rw [He.out]
    go_enter Try.func52, Try.ntmps52
    go_wp2
    go_ret
    exact .of Hlit.out ((Below.refl _ _).alloc (Nat.le_refl _) _)
set_option maxRecDepth 8000 in
set_option maxHeartbeats 4000000 in
theorem RInt_calls (i : Int) (hi : -9223372036854775808 ≤ i ∧ i ≤ 9223372036854775807) (w : World) :
    Calls Try.prog 54 #[.int .i64 i] w (ToldPost w (encN (zig i))) := by
  have Hu := Lib.hid (RUint_calls (zig i) (zig_lt hi) w)
  by_cases h0 : 0 ≤ i
  · have hz : IntKind.u64.wrap (2 * IntKind.u64.wrap i) = ((zig i : Nat) : Int) := by
      rw [wrap_u64, wrap_u64]
      unfold zig
      rw [if_pos h0]
      omega
    have Hz := Lib.hid hz
    have hw1 : IntKind.u64.wrap i = i := by rw [wrap_u64]; omega
    have hz2 : ((zig i : Nat) : Int) = 2 * i := by unfold zig; rw [if_pos h0]; omega
    rw [hz2] at Hu
    clear hz
    go_enter Try.func54, Try.ntmps54
    go_wp2_with fail
    refine Hu.out.mono ?_
    rintro e w1 ⟨v, rfl, ho, hE⟩
    go_wp2
    go_ret
    exact ⟨v, rfl, ho, hE⟩
  · have hz2 : ((zig i : Nat) : Int) = 2 * (-(i + 1)) + 1 := by unfold zig; rw [if_neg h0]; omega
    have hw1 : IntKind.u64.wrap (-(i + 1)) = -(i + 1) := by rw [wrap_u64]; omega
    rw [hz2] at Hu
    go_enter Try.func54, Try.ntmps54
    go_wp2_with fail
    refine Hu.out.mono ?_
    rintro e w1 ⟨v, rfl, ho, hE⟩
    go_wp2
    go_ret
    exact ⟨v, rfl, ho, hE⟩
set_option maxRecDepth 8000 in
set_option maxHeartbeats 4000000 in
theorem RText_calls (s : ByteArray) (hs : s.size ≤ 70368744177664) (w : World) :
    Calls Try.prog 56 #[.string s] w (ToldPost w (encT s)) := by
  have Hu := Lib.hid (RUint_calls s.size (by omega) w)
  have hl := (encN_len s.size (by omega)).2
  go_enter Try.func56, Try.ntmps56
  go_wp2_with fail
  refine Hu.out.mono ?_
  rintro e w1 ⟨v, rfl, ho, hE⟩
  have hsz := hE.size
  have hv := fun k (h : v.ownBlock = some k) => (ho.at h).1
  go_wp2_with (at_builtin; go_must (refine app_str w.heap.size rfl (.tmp 8) (.tmp 9) 31 9 5 rfl Try.underlying31 Try.underlying9 info_u8z v (encN s.size) (fun _ => False) s rfl rfl ho (by omega) (by omega) ?_; intro v4 w4 ho4 hg4))
  go_ret
  exact .of ho4 (hE.grown hg4 hsz hv)
set_option maxRecDepth 8000 in
set_option maxHeartbeats 4000000 in
theorem RFlag_calls (b : Bool) (w : World) :
    Calls Try.prog 55 #[.bool b] w (ToldPost w [if b then 1 else 0]) := by
  cases b with
  | true =>
    have Hlit := Lib.hid (Own.lit (d := kb) (e := 5) w (Nat.le_refl _) (F := fun _ => False) [.int .u8 1] [1] 1 rfl (by decide) (Reps.single rfl ⟨rfl, trivial⟩))
    go_enter Try.func55, Try.ntmps55
    go_wp2
    go_ret
    exact .of Hlit.out ((Below.refl _ _).alloc (Nat.le_refl _) _)
  | false =>
    have Hlit := Lib.hid (Own.lit (d := kb) (e := 5) w (Nat.le_refl _) (F := fun _ => False) [.int .u8 0] [0] 1 rfl (by decide) (Reps.single rfl ⟨rfl, trivial⟩))
    go_enter Try.func55, Try.ntmps55
    go_wp2
    go_ret
    exact .of Hlit.out ((Below.refl _ _).alloc (Nat.le_refl _) _)
end Go.Proofs.Ytaomhedjamnloaa
