/- Numbers as bytes, plain: seven bits a byte, the lowest first. -/
import Derived.WalkKit
import Derived.Laws.BitsLemmas
set_option linter.unusedVariables false
namespace Go.Proofs.Ytaomhedjamnloaa
open Go

/-- A number's bytes. -/
def encN (n : Nat) : List UInt8 := if n < 128 then [UInt8.ofNat n] else UInt8.ofNat (n % 128 + 128) :: encN (n / 128)
termination_by n
theorem encN_small {n : Nat} (h : n < 128) : encN n = [UInt8.ofNat n] := by rw [encN, if_pos h]
theorem encN_big {n : Nat} (h : 128 ≤ n) : encN n = UInt8.ofNat (n % 128 + 128) :: encN (n / 128) := by rw [encN, if_neg (by omega)]
/-- A number with a sign as one without. -/
def zig (i : Int) : Nat := if 0 ≤ i then (2 * i).toNat else (-2 * i - 1).toNat
def zag (n : Nat) : Int := if n % 2 = 0 then ((n / 2 : Nat) : Int) else -((n / 2 : Nat) : Int) - 1
theorem zag_zig (i : Int) : zag (zig i) = i := by
  unfold zag zig
  split <;> split <;> omega
theorem zig_zag (n : Nat) : zig (zag n) = n := by
  unfold zag zig
  split <;> split <;> omega
theorem zig_lt {i : Int} (h : -9223372036854775808 ≤ i ∧ i ≤ 9223372036854775807) : zig i < 18446744073709551616 := by
  unfold zig
  split <;> omega
theorem zag_i64 {n : Nat} (h : n < 18446744073709551616) : -9223372036854775808 ≤ zag n ∧ zag n ≤ 9223372036854775807 := by
  unfold zag
  split <;> omega
/-- The number that bytes begin with, and how many they are: i of them were read, and came to acc. -/
def getU (i acc : Nat) : List UInt8 → Option (Nat × Nat)
  | [] => none
  | c :: r =>
    if 10 ≤ i then none else if i = 9 ∧ 1 < c.toNat then none
    else if 128 ≤ c.toNat then getU (i + 1) (acc + c.toNat % 128 * 2 ^ (7 * i)) r
    else if c.toNat = 0 ∧ 0 < i then none
    else some (acc + c.toNat % 128 * 2 ^ (7 * i), i + 1)
theorem getU_le : ∀ (l : List UInt8) (i acc : Nat) (p : Nat × Nat), getU i acc l = some p → i < p.2 ∧ p.2 ≤ i + l.length ∧ p.2 ≤ 10
  | [], i, acc, p, h => by cases h
  | c :: r, i, acc, p, h => by
    unfold getU at h
    split at h
    · cases h
    · split at h
      · cases h
      · split at h
        · obtain ⟨h1, h2, h3⟩ := getU_le r _ _ p h
          simp only [List.length_cons]
          omega
        · split at h
          · cases h
          · injection h with h
            subst h
            simp only [List.length_cons]
            omega
theorem pow7_succ (i : Nat) : 2 ^ (7 * (i + 1)) = 128 * 2 ^ (7 * i) := by
  rw [show 7 * (i + 1) = 7 * i + 7 by omega, Nat.pow_add]
  omega
theorem u8_ofNat {n : Nat} (h : n < 256) : (UInt8.ofNat n).toNat = n := by simp; omega
/-- What was told is read. -/
theorem getU_enc : ∀ (n i acc : Nat) (r : List UInt8), acc + n * 2 ^ (7 * i) < 18446744073709551616 → (i = 0 ∨ 0 < n) → i < 10 → getU i acc (encN n ++ r) = some (acc + n * 2 ^ (7 * i), i + (encN n).length) := by
  intro n
  induction n using Nat.strongRecOn with
  | ind n ih =>
    intro i acc r hlt hpos hi
    have hP : 0 < 2 ^ (7 * i) := Nat.two_pow_pos _
    rcases Nat.lt_or_ge n 128 with hn | hn
    · rw [encN_small hn]
      have e1 : (UInt8.ofNat n).toNat = n := u8_ofNat (by omega)
      show getU i acc (UInt8.ofNat n :: r) = _
      unfold getU
      rw [e1, if_neg (by omega), if_neg ?_, if_neg (by omega), if_neg (by omega), Nat.mod_eq_of_lt hn]
      · rfl
      · rintro ⟨h9, h1⟩
        subst h9
        have : 2 * 2 ^ (7 * 9) ≤ n * 2 ^ (7 * 9) := Nat.mul_le_mul_right _ h1
        omega
    · rw [encN_big hn]
      have e1 : (UInt8.ofNat (n % 128 + 128)).toNat = n % 128 + 128 := u8_ofNat (by omega)
      have h8 : i < 9 := by
        rcases Nat.lt_or_ge i 9 with h | h
        · exact h
        · have h9 : i = 9 := by omega
          subst h9
          have : 128 * 2 ^ (7 * 9) ≤ n * 2 ^ (7 * 9) := Nat.mul_le_mul_right _ hn
          omega
      have e2 : (n % 128 + 128) % 128 = n % 128 := by omega
      have e3 : acc + n % 128 * 2 ^ (7 * i) + n / 128 * 2 ^ (7 * (i + 1)) = acc + n * 2 ^ (7 * i) := by
        rw [pow7_succ]
        have : n * 2 ^ (7 * i) = (n % 128 + 128 * (n / 128)) * 2 ^ (7 * i) := by rw [Nat.mod_add_div]
        rw [this, Nat.add_mul, Nat.mul_comm 128 (n / 128), Nat.mul_assoc]
        omega
      show getU i acc (UInt8.ofNat (n % 128 + 128) :: (encN (n / 128) ++ r)) = _
      unfold getU
      rw [e1, if_neg (by omega), if_neg (by omega), if_pos (by omega), e2, ih (n / 128) (by omega) (i + 1) _ r (by rw [e3]; exact hlt) (.inr (by omega)) (by omega), e3]
      simp only [List.length_cons]
      rw [show i + 1 + (encN (n / 128)).length = i + ((encN (n / 128)).length + 1) by omega]
/-- What is read was told. -/
theorem getU_of : ∀ (l : List UInt8) (i acc : Nat) (p : Nat × Nat), getU i acc l = some p → acc < 2 ^ (7 * i) → ∃ n r, l = encN n ++ r ∧ p = (acc + n * 2 ^ (7 * i), i + (encN n).length) ∧ (i = 0 ∨ 0 < n) ∧ p.1 < 18446744073709551616
  | [], i, acc, p, h, _ => by cases h
  | c :: r, i, acc, p, h, ha => by
    have hc := c.toNat_lt
    have hP : 0 < 2 ^ (7 * i) := Nat.two_pow_pos _
    unfold getU at h
    split at h
    · cases h
    · rename_i hi
      split at h
      · cases h
      · rename_i h9
        have hb : acc + c.toNat % 128 * 2 ^ (7 * i) < 2 ^ (7 * (i + 1)) := by
          have : c.toNat % 128 * 2 ^ (7 * i) ≤ 127 * 2 ^ (7 * i) := Nat.mul_le_mul_right _ (by omega)
          rw [pow7_succ]
          omega
        split at h
        · rename_i h128
          obtain ⟨n, r', e1, e2, e3, e4⟩ := getU_of r _ _ p h hb
          have hn : 0 < n := by omega
          refine ⟨c.toNat % 128 + 128 * n, r', ?_, ?_, by omega, e4⟩
          · rw [encN_big (by omega), show (c.toNat % 128 + 128 * n) % 128 + 128 = c.toNat by omega, show (c.toNat % 128 + 128 * n) / 128 = n by omega, UInt8.ofNat_toNat, e1]
            rfl
          · rw [e2, encN_big (show 128 ≤ c.toNat % 128 + 128 * n by omega), show (c.toNat % 128 + 128 * n) / 128 = n by omega, List.length_cons, pow7_succ, Nat.add_mul, ← Nat.mul_assoc, Nat.mul_comm n 128]
            rw [show i + 1 + (encN n).length = i + ((encN n).length + 1) by omega, Nat.add_assoc]
        · rename_i h128
          split at h
          · cases h
          · rename_i h0
            injection h with h
            subst h
            refine ⟨c.toNat, r, ?_, ?_, by omega, ?_⟩
            · rw [encN_small (by omega), UInt8.ofNat_toNat]
              rfl
            · rw [encN_small (by omega), Nat.mod_eq_of_lt (by omega)]
              rfl
            · show acc + c.toNat % 128 * 2 ^ (7 * i) < _
              rcases Nat.lt_or_ge i 9 with h8 | h8
              · have : 2 ^ (7 * (i + 1)) ≤ 2 ^ 63 := Nat.pow_le_pow_right (by decide) (by omega)
                omega
              · have h9' : i = 9 := by omega
                subst h9'
                have : c.toNat % 128 * 2 ^ (7 * 9) ≤ 1 * 2 ^ (7 * 9) := Nat.mul_le_mul_right _ (by omega)
                omega
theorem encN_len : ∀ n, n < 18446744073709551616 → 1 ≤ (encN n).length ∧ (encN n).length ≤ 10 := by
  intro n h
  have := getU_le _ 0 0 _ (getU_enc n 0 0 [] (by simpa using h) (.inl rfl) (by omega))
  omega
/-- No telling is the beginning of another one. -/
theorem encN_free {m n : Nat} (hm : m < 18446744073709551616) (hn : n < 18446744073709551616) {r s : List UInt8} (h : encN m ++ r = encN n ++ s) : m = n := by
  have h1 := getU_enc m 0 0 r (by simpa using hm) (.inl rfl) (by omega)
  have h2 := getU_enc n 0 0 s (by simpa using hn) (.inl rfl) (by omega)
  rw [h, h2] at h1
  injection h1 with h1
  injection h1 with h1
  simpa using h1.symm
theorem wrap_u64 (n : Int) : IntKind.u64.wrap n = n % 18446744073709551616 := by simp [IntKind.wrap, IntKind.bits, IntKind.signed]
theorem wraps_u64 (n : Int) (h₀ : 0 ≤ n) (h₁ : n < 2 ^ 64) : IntKind.u64.wrap n = n := by rw [wrap_u64]; omega
theorem xor64_zero (a : Nat) (h : a < 18446744073709551616) : bits .xor .u64 (a : Int) 0 = (a : Int) := by
  have e : bits .xor .u64 (a : Int) 0 = IntKind.u64.wrap (((BitVec.ofInt 64 (a : Int) ^^^ BitVec.ofInt 64 0).toNat : Nat) : Int) := rfl
  rw [e, BitVec.ofInt_natCast, show BitVec.ofInt 64 0 = 0#64 from rfl, BitVec.xor_zero, BitVec.toNat_ofNat, Nat.mod_eq_of_lt h, wrap_u64]
  omega
theorem xor64_ones (a : Nat) (h : a < 18446744073709551616) : bits .xor .u64 (a : Int) 18446744073709551615 = ((18446744073709551615 - a : Nat) : Int) := by
  have e : bits .xor .u64 (a : Int) 18446744073709551615 = IntKind.u64.wrap (((BitVec.ofInt 64 (a : Int) ^^^ BitVec.ofInt 64 18446744073709551615).toNat : Nat) : Int) := rfl
  rw [e, BitVec.ofInt_natCast, show BitVec.ofInt 64 18446744073709551615 = BitVec.allOnes 64 from rfl, BitVec.xor_allOnes, BitVec.toNat_not, BitVec.toNat_ofNat, Nat.mod_eq_of_lt h, wrap_u64]
  omega
theorem zig_bits (i : Int) (hi : -9223372036854775808 ≤ i ∧ i ≤ 9223372036854775807) : bits .xor .u64 (IntKind.u64.wrap (IntKind.u64.wrap i * 2)) (IntKind.u64.wrap (i / 9223372036854775808)) = ((zig i : Nat) : Int) := by
  rw [wrap_u64, wrap_u64, wrap_u64]
  unfold zig
  by_cases h : 0 ≤ i
  · rw [if_pos h, show i / 9223372036854775808 % 18446744073709551616 = 0 by omega, show i % 18446744073709551616 * 2 % 18446744073709551616 = (((2 * i).toNat : Nat) : Int) by omega]
    exact xor64_zero _ (by omega)
  · rw [if_neg h, show i / 9223372036854775808 % 18446744073709551616 = 18446744073709551615 by omega, show i % 18446744073709551616 * 2 % 18446744073709551616 = (((18446744073709551616 + 2 * i).toNat : Nat) : Int) by omega]
    rw [xor64_ones _ (by omega)]
    congr 1
    omega
theorem and127 (cv : Nat) (h : cv < 256) : bits .and .u8 (cv : Int) 127 = ((cv % 128 : Nat) : Int) := by
  have := bits_mask .u8 8 (by decide) wraps_u8 7 (by decide) (cv : Int) (by omega) (by omega)
  rw [show (2 : Int) ^ 7 - 1 = 127 by decide, show (2 : Int) ^ 7 = 128 by decide] at this
  rw [this]
  omega
theorem or_comm64 (x y : Int) : bits .or .u64 x y = bits .or .u64 y x := by unfold bits; simp only [BitVec.or_comm]
/-- One byte more of a number. -/
theorem or_step (a k cv : Nat) (ha : a < 2 ^ (7 * k)) (hk : k < 9 ∨ (k = 9 ∧ cv ≤ 1)) (h : cv < 256) :
    bits .or .u64 (a : Int) (IntKind.u64.wrap (IntKind.u64.wrap (bits .and .u8 (cv : Int) 127) * 2 ^ (7 * k))) = ((a + cv % 128 * 2 ^ (7 * k) : Nat) : Int) ∧ a + cv % 128 * 2 ^ (7 * k) < 18446744073709551616 := by
  have hP : 2 ^ (7 * k) ≤ 2 ^ 63 := Nat.pow_le_pow_right (by decide) (by omega)
  have hm : cv % 128 * 2 ^ (7 * k) + 2 ^ (7 * k) ≤ 18446744073709551616 := by
    rcases hk with hk | ⟨rfl, hc⟩
    · have : cv % 128 * 2 ^ (7 * k) ≤ 127 * 2 ^ (7 * k) := Nat.mul_le_mul_right _ (by omega)
      have : 2 ^ (7 * k) ≤ 2 ^ 56 := Nat.pow_le_pow_right (by decide) (by omega)
      omega
    · rw [show 2 ^ (7 * 9) = 9223372036854775808 by decide]
      omega
  refine ⟨?_, by omega⟩
  have e1 : IntKind.u64.wrap ((cv % 128 : Nat) : Int) = ((cv % 128 : Nat) : Int) := by rw [wrap_u64]; omega
  have e2 : ((cv % 128 : Nat) : Int) * 2 ^ (7 * k) = ((cv % 128 * 2 ^ (7 * k) : Nat) : Int) := by push_cast; rfl
  have hP0 : 0 < 2 ^ (7 * k) := Nat.two_pow_pos _
  have e3 : IntKind.u64.wrap ((cv % 128 * 2 ^ (7 * k) : Nat) : Int) = ((cv % 128 * 2 ^ (7 * k) : Nat) : Int) := by rw [wrap_u64]; omega
  rw [and127 cv h, e1, e2, e3, or_comm64]
  have hmod : ((cv % 128 * 2 ^ (7 * k) : Nat) : Int) % 2 ^ (7 * k) = 0 := by
    have : cv % 128 * 2 ^ (7 * k) % 2 ^ (7 * k) = 0 := Nat.mul_mod_left _ _
    exact_mod_cast this
  have hlt : (a : Int) < 2 ^ (7 * k) := by exact_mod_cast ha
  rw [bits_join .u64 64 (by decide) wraps_u64 (7 * k) _ (a : Int) (Int.natCast_nonneg _) hmod (by omega) (by omega) hlt (by omega)]
  push_cast
  omega
end Go.Proofs.Ytaomhedjamnloaa