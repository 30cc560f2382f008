/- Contracts of the document's writers: towpathref01.Uint, Int, Text, Flag, Texts, Ints. -/
import Derived.Test.YtjmeoaookpnknaaWire1
set_option linter.unusedVariables false
set_option linter.unusedSimpArgs false
namespace Go.Proofs.Ytjmeoaookpnknaa
open Go Go.RowKit

set_option maxRecDepth 8000 in
set_option maxHeartbeats 4000000 in
theorem RUint_calls : ∀ (n : Nat), n < 18446744073709551616 → ∀ (w : World),
    Calls Try.prog 33 #[.int .u64 n] w (ToldPost w (encN n)) := by
  intro n
  induction n using Nat.strongRecOn with
  | ind n ih =>
  intro hn w
  by_cases hbig : 128 ≤ n
  · have hih := ih (n / 128) (by omega) (by omega)
    rw [← u64_shr7] at hih
    have Hih := Lib.hid hih
    clear hih ih
    have He := Lib.hid (encN_big hbig)
    have hl := (encN_len (n / 128) (by omega)).2
    have hlit := Own.lit (d := kb) (e := 5) w (Nat.le_refl _) (F := fun _ => False) [.int .u8 ((n % 128 + 128 : Nat) : Int)] [UInt8.ofNat (n % 128 + 128)] 1 rfl (by decide) (Reps.single rfl (kb_one _ _ _ (by omega)))
    have hw8 : IntKind.u8.wrap ((n : Int) % 128 + 128) = ((n % 128 + 128 : Nat) : Int) := by rw [IntKind.wrap_u8]; omega
    have hE0 : Below w.heap.size w (w.alloc (.cells #[.int .u8 ((n % 128 + 128 : Nat) : Int)] 5)) := (Below.refl _ _).alloc (Nat.le_refl _) _
    have Hlit := Lib.hid hlit
    clear hlit
    rw [He.out]
    go_enter Try.func33, Try.ntmps33
    go_wp2_with fail
    refine (Hih.out _).mono ?_
    rintro e w2 ⟨v2, rfl, ho2, hE2⟩
    have hE2' := Below.trans hE0 (Below.mono hE2 hE0.size)
    have hsz := hE2'.size
    have ho1 := Hlit.out.below hE2
    obtain ⟨A4, c4, e4, _, _⟩ := ho2.slice
    subst e4
    have hrow := fun j (hj : (Value.slice (some ⟨w.heap.size, 0, none⟩) 1 1).ownBlock = some j) => (ho1.at hj).1
    generalize encN (n / 128) = q at *
    go_wp2_with (at_builtin; go_must (refine app_flat kb flat_kb w.heap.size rfl (.tmp 14) (.tmp 17) 23 5 1 rfl Try.underlying23 info_u8 (.slice (some ⟨w.heap.size, 0, none⟩) 1 1) (.slice A4 q.length c4) [UInt8.ofNat (n % 128 + 128)] q (fun _ => False) _ rfl rfl ho1 ho2.sl (by simp only [List.length_singleton]; omega) (by simp only [List.length_singleton, maxLen]; omega) (by omega) ?_; intro v4 w4 ho4 hg4 ha4))
    go_ret
    exact .of ho4 (hE2'.grown hg4 hsz hrow)
  · have He := Lib.hid (encN_small (show n < 128 by omega))
    have Hlit := Lib.hid (Own.lit (d := kb) (e := 5) w (Nat.le_refl _) (F := fun _ => False) [.int .u8 (n : Int)] [UInt8.ofNat n] 1 rfl (by decide) (Reps.single rfl (kb_one _ _ _ (by omega))))
    rw [He.out]
    go_enter Try.func33, Try.ntmps33
    go_wp2
    go_ret
    exact .of Hlit.out ((Below.refl _ _).alloc (Nat.le_refl _) _)
set_option maxRecDepth 8000 in
set_option maxHeartbeats 4000000 in
theorem RInt_calls (i : Int) (hi : -9223372036854775808 ≤ i ∧ i ≤ 9223372036854775807) (w : World) :
    Calls Try.prog 34 #[.int .i64 i] w (ToldPost w (encN (zig i))) := by
  have Hu := Lib.hid (RUint_calls (zig i) (zig_lt hi) w)
  by_cases h0 : 0 ≤ i
  · have hz : IntKind.u64.wrap (2 * IntKind.u64.wrap i) = ((zig i : Nat) : Int) := by
      rw [wrap_u64, wrap_u64]
      unfold zig
      rw [if_pos h0]
      omega
    have Hz := Lib.hid hz
    have hw1 : IntKind.u64.wrap i = i := by rw [wrap_u64]; omega
    have hz2 : ((zig i : Nat) : Int) = 2 * i := by unfold zig; rw [if_pos h0]; omega
    rw [hz2] at Hu
    clear hz
    go_enter Try.func34, Try.ntmps34
    go_wp2_with fail
    refine Hu.out.mono ?_
    rintro e w1 ⟨v, rfl, ho, hE⟩
    go_wp2
    go_ret
    exact ⟨v, rfl, ho, hE⟩
  · have hz2 : ((zig i : Nat) : Int) = 2 * (-(i + 1)) + 1 := by unfold zig; rw [if_neg h0]; omega
    have hw1 : IntKind.u64.wrap (-(i + 1)) = -(i + 1) := by rw [wrap_u64]; omega
    rw [hz2] at Hu
    go_enter Try.func34, Try.ntmps34
    go_wp2_with fail
    refine Hu.out.mono ?_
    rintro e w1 ⟨v, rfl, ho, hE⟩
    go_wp2
    go_ret
    exact ⟨v, rfl, ho, hE⟩
set_option maxRecDepth 8000 in
set_option maxHeartbeats 4000000 in
theorem RText_calls (s : ByteArray) (hs : s.size ≤ 70368744177664) (w : World) :
    Calls Try.prog 36 #[.string s] w (ToldPost w (encT s)) := by
  have Hu := Lib.hid (RUint_calls s.size (by omega) w)
  have hl := (encN_len s.size (by omega)).2
  go_enter Try.func36, Try.ntmps36
  go_wp2_with fail
  refine Hu.out.mono ?_
  rintro e w1 ⟨v, rfl, ho, hE⟩
  have hsz := hE.size
  have hv := fun k (h : v.ownBlock = some k) => (ho.at h).1
  go_wp2_with (at_builtin; go_must (refine app_str w.heap.size rfl (.tmp 8) (.tmp 9) 23 9 5 rfl Try.underlying23 Try.underlying9 info_u8z v (encN s.size) (fun _ => False) s rfl rfl ho (by omega) (by omega) ?_; intro v4 w4 ho4 hg4))
  go_ret
  exact .of ho4 (hE.grown hg4 hsz hv)
set_option maxRecDepth 8000 in
set_option maxHeartbeats 4000000 in
theorem RFlag_calls (b : Bool) (w : World) :
    Calls Try.prog 38 #[.bool b] w (ToldPost w [if b then 1 else 0]) := by
  cases b with
  | true =>
    have Hlit := Lib.hid (Own.lit (d := kb) (e := 5) w (Nat.le_refl _) (F := fun _ => False) [.int .u8 1] [1] 1 rfl (by decide) (Reps.single rfl ⟨rfl, trivial⟩))
    go_enter Try.func38, Try.ntmps38
    go_wp2
    go_ret
    exact .of Hlit.out ((Below.refl _ _).alloc (Nat.le_refl _) _)
  | false =>
    have Hlit := Lib.hid (Own.lit (d := kb) (e := 5) w (Nat.le_refl _) (F := fun _ => False) [.int .u8 0] [0] 1 rfl (by decide) (Reps.single rfl ⟨rfl, trivial⟩))
    go_enter Try.func38, Try.ntmps38
    go_wp2
    go_ret
    exact .of Hlit.out ((Below.refl _ _).alloc (Nat.le_refl _) _)
set_option maxRecDepth 8000 in
set_option maxHeartbeats 4000000 in
theorem RTexts_calls (A : Option Addr) (c : Nat) (ls : List ByteArray) (F : Nat → Prop) (w : World) (hn : ls.length ≤ maxLen) (ht : (ls.map encT).flatten.length ≤ 70368744177664) (hF : ∀ k, F k → k < w.heap.size) (hr : Row str w F A ls) :
    Calls Try.prog 39 #[.slice A ls.length c] w (ToldPost w (encTs ls)) := by
  unfold maxLen at hn
  have Hu := Lib.hid (RUint_calls ls.length (by omega) w)
  have hul := (encN_len ls.length (by omega)).2
  go_enter Try.func39, Try.ntmps39
  go_wp2_with fail
  refine Hu.out.mono ?_
  rintro e w1 ⟨v, rfl, ho1, hE1⟩
  go_wp2_with fail
  go_loopw [3, 12] (fun v i w' => ∃ k : Nat, k ≤ ls.length ∧ i = .int .i64 k ∧ Own kb 5 w' w.heap.size (fun _ => False) v (encN ls.length ++ ((ls.take k).map encT).flatten) ∧ Below w.heap.size w w') (fun _ i _ => ls.length - (intOf i).toNat)
  case atStart => exact ⟨0, Nat.zero_le _, rfl, by simpa using ho1, hE1⟩
  case round =>
    obtain ⟨k, hk, rfl, ho, hE⟩ := hrel
    have hsz := hE.size
    by_cases hlt : k < ls.length
    · obtain ⟨ad, rfl, hcell⟩ := (hr.belowF hF hE).str_at k hlt
      have Hfl := Lib.hid (flat_map_snoc encT ls k hlt)
      have hle := flat_map_le encT ls (k + 1)
      rw [Hfl.out, List.length_append] at hle
      have hpl : (encN ls.length ++ ((ls.take k).map encT).flatten).length ≤ 10 + ((ls.take k).map encT).flatten.length := by rw [List.length_append]; omega
      have hsl := encT_ge ls[k]
      have Hap := Lib.hid (show encN ls.length ++ ((ls.take (k + 1)).map encT).flatten = (encN ls.length ++ ((ls.take k).map encT).flatten) ++ encT ls[k] by rw [Hfl.out, List.append_assoc])
      have Ht := Lib.hid (RText_calls ls[k] (by omega) wr)
      obtain ⟨A3, c3, e3, _, _⟩ := ho.slice
      subst e3
      generalize encN ls.length ++ ((ls.take k).map encT).flatten = pre at *
      generalize ((ls.take k).map encT).flatten.length = q at *
      generalize encT ls[k] = t at *
      generalize ls[k] = s at *
      go_wp2_with fail
      refine Ht.out.mono ?_
      rintro e w2 ⟨vt, rfl, hot, hE2⟩
      have ho2 := ho.below hE2
      have hE2' := Below.trans hE (Below.mono hE2 hsz)
      have hsz2 := hE2'.size
      obtain ⟨A4, c4, e4, _, _⟩ := hot.slice
      subst e4
      go_wp2_with (at_builtin; go_must (refine app_flat kb flat_kb w.heap.size rfl (.tmp 16) (.tmp 18) 23 5 1 rfl Try.underlying23 info_u8 (.slice A3 pre.length c3) (.slice A4 t.length c4) pre t (fun _ => False) _ rfl rfl ho2 hot.sl (by omega) (by simp only [maxLen]; omega) (by omega) ?_; intro v4 w4 ho4 hg4 ha4))
      go_roundw
      case rel => exact ⟨k + 1, hlt, by go_num, by rw [Hap.out]; exact ho4, hE2'.grown hg4 hsz2 (fun j hj => (ho.at hj).1)⟩
      case measure => simp [intOf]; omega
    · obtain rfl : k = ls.length := by omega
      go_wp2
      go_ret
      rw [List.take_length] at ho
      exact .of ho hE
set_option maxRecDepth 8000 in
set_option maxHeartbeats 4000000 in
theorem RInts_calls (A : Option Addr) (c : Nat) (ls : List Int) (F : Nat → Prop) (w : World) (hn : ls.length ≤ maxLen) (ht : (ls.map fun i => encN (zig i)).flatten.length ≤ 70368744177664) (hF : ∀ k, F k → k < w.heap.size) (hr : Row (num .i64) w F A ls) :
    Calls Try.prog 41 #[.slice A ls.length c] w (ToldPost w (encIs ls)) := by
  unfold maxLen at hn
  have Hu := Lib.hid (RUint_calls ls.length (by omega) w)
  have hul := (encN_len ls.length (by omega)).2
  go_enter Try.func41, Try.ntmps41
  go_wp2_with fail
  refine Hu.out.mono ?_
  rintro e w1 ⟨v, rfl, ho1, hE1⟩
  go_wp2_with fail
  go_loopw [3, 12] (fun v i w' => ∃ k : Nat, k ≤ ls.length ∧ i = .int .i64 k ∧ Own kb 5 w' w.heap.size (fun _ => False) v (encN ls.length ++ ((ls.take k).map fun i => encN (zig i)).flatten) ∧ Below w.heap.size w w') (fun _ i _ => ls.length - (intOf i).toNat)
  case atStart => exact ⟨0, Nat.zero_le _, rfl, by simpa using ho1, hE1⟩
  case round =>
    obtain ⟨k, hk, rfl, ho, hE⟩ := hrel
    have hsz := hE.size
    by_cases hlt : k < ls.length
    · obtain ⟨ad, rfl, hcell, hwf⟩ := (hr.belowF hF hE).num_at' k hlt
      have Hfl := Lib.hid (flat_map_snoc (fun i => encN (zig i)) ls k hlt)
      have hle := flat_map_le (fun i => encN (zig i)) ls (k + 1)
      rw [Hfl.out, List.length_append] at hle
      have hpl : (encN ls.length ++ ((ls.take k).map fun i => encN (zig i)).flatten).length ≤ 10 + ((ls.take k).map fun i => encN (zig i)).flatten.length := by rw [List.length_append]; omega
      have Hap := Lib.hid (show encN ls.length ++ ((ls.take (k + 1)).map fun i => encN (zig i)).flatten = (encN ls.length ++ ((ls.take k).map fun i => encN (zig i)).flatten) ++ encN (zig ls[k]) by rw [Hfl.out, List.append_assoc])
      have Ht := Lib.hid (RInt_calls ls[k] (i64_of_wf hwf) wr)
      clear hwf
      obtain ⟨A3, c3, e3, _, _⟩ := ho.slice
      subst e3
      generalize encN ls.length ++ ((ls.take k).map fun i => encN (zig i)).flatten = pre at *
      generalize ((ls.take k).map fun i => encN (zig i)).flatten.length = q at *
      generalize encN (zig ls[k]) = t at *
      generalize ls[k] = s at *
      go_wp2_with fail
      refine Ht.out.mono ?_
      rintro e w2 ⟨vt, rfl, hot, hE2⟩
      have ho2 := ho.below hE2
      have hE2' := Below.trans hE (Below.mono hE2 hsz)
      have hsz2 := hE2'.size
      obtain ⟨A4, c4, e4, _, _⟩ := hot.slice
      subst e4
      go_wp2_with (at_builtin; go_must (refine app_flat kb flat_kb w.heap.size rfl (.tmp 16) (.tmp 18) 23 5 1 rfl Try.underlying23 info_u8 (.slice A3 pre.length c3) (.slice A4 t.length c4) pre t (fun _ => False) _ rfl rfl ho2 hot.sl (by omega) (by simp only [maxLen]; omega) (by omega) ?_; intro v4 w4 ho4 hg4 ha4))
      go_roundw
      case rel => exact ⟨k + 1, hlt, by go_num, by rw [Hap.out]; exact ho4, hE2'.grown hg4 hsz2 (fun j hj => (ho.at hj).1)⟩
      case measure => simp [intOf]; omega
    · obtain rfl : k = ls.length := by omega
      go_wp2
      go_ret
      rw [List.take_length] at ho
      exact .of ho hE
end Go.Proofs.Ytjmeoaookpnknaa
