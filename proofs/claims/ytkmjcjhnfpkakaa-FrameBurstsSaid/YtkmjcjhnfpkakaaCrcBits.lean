/- The sum bit by bit is the sum byte by byte. -/
import Derived.Test.YtkmjcjhnfpkakaaCrc
set_option linter.unusedVariables false
set_option linter.unusedSimpArgs false
namespace Go.Proofs.Ytkmjcjhnfpkakaa
open Go

def xbit (x : UInt32) (i : Nat) : Bool := x.toBitVec.getLsbD i
def refBit (x : UInt32) (b : Bool) : UInt32 := (x >>> 1) ^^^ (if (xbit x 0 != b) = true then poly else 0)
def refBits : Nat → UInt32 → UInt8 → UInt32
  | 0, x, _ => x
  | k + 1, x, c => refBit (refBits k x c) (c.toNat.testBit k)

theorem u32_ext {a b : UInt32} (h : ∀ i, i < 32 → xbit a i = xbit b i) : a = b := by
  apply UInt32.toBitVec_inj.1
  apply BitVec.eq_of_getLsbD_eq
  intro i hi
  exact h i hi
theorem xbit_xor (a b : UInt32) (i : Nat) : xbit (a ^^^ b) i = (xbit a i ^^ xbit b i) := by simp [xbit]
theorem xbit_shr (a : UInt32) (i : Nat) : xbit (a >>> 1) i = xbit a (i + 1) := by simp [xbit, Nat.add_comm]
theorem xbit_big (a : UInt32) (i : Nat) (h : 32 ≤ i) : xbit a i = false := by simp [xbit, h]
theorem xbit_zero (i : Nat) : xbit 0 i = false := by simp [xbit]
theorem low_bit (s : UInt32) : s &&& 1 = if xbit s 0 = true then 1 else 0 := by
  apply u32_ext
  intro i hi
  by_cases h : xbit s 0 = true
  · rw [if_pos h]
    cases i with
    | zero => simp [xbit] at *; exact h
    | succ i => simp [xbit]
  · rw [if_neg h]
    cases i with
    | zero => simp [xbit] at *; exact h
    | succ i => simp [xbit]
theorem crcBit_if (s : UInt32) : crcBit s = (s >>> 1) ^^^ (if xbit s 0 = true then poly else 0) := by
  unfold crcBit
  rw [low_bit]
  by_cases h : xbit s 0 = true
  · simp only [h, if_true]
    congr 1
  · simp only [h, if_false]
    congr 1
theorem refBit_eq (x : UInt32) (b : Bool) : refBit x b = crcBit (x ^^^ (if b then 1 else 0)) := by
  rw [crcBit_if]
  unfold refBit
  have h0 : xbit (x ^^^ (if b then 1 else 0)) 0 = (xbit x 0 != b) := by
    rw [xbit_xor]
    cases b <;> cases xbit x 0 <;> rfl
  have h1 : (x ^^^ (if b then 1 else 0)) >>> 1 = x >>> 1 := by
    apply u32_ext
    intro i hi
    rw [xbit_shr, xbit_shr, xbit_xor]
    cases b <;> simp [xbit]
  rw [h0, h1]
theorem crcBit_xor (a b : UInt32) : crcBit (a ^^^ b) = crcBit a ^^^ crcBit b := by
  rw [crcBit_if, crcBit_if, crcBit_if, xbit_xor]
  apply u32_ext
  intro i hi
  cases ha : xbit a 0 <;> cases hb : xbit b 0 <;> simp [xbit_xor, xbit_shr, xbit_zero] <;> cases xbit a (i + 1) <;> cases xbit b (i + 1) <;> cases xbit poly i <;> rfl
theorem crcBit_even (s : UInt32) (h : xbit s 0 = false) : crcBit s = s >>> 1 := by
  rw [crcBit_if, h]; simp
theorem split8 : ∀ m, m < 256 → UInt32.ofNat m = (if decide (m % 2 = 1) then (1 : UInt32) else 0) ^^^ (UInt32.ofNat (m / 2) <<< 1) := by decide +kernel
theorem shl_shr8 : ∀ m, m < 256 → UInt32.ofNat m <<< 1 >>> 1 = UInt32.ofNat m := by decide +kernel
theorem crcBits_refBits (x : UInt32) (c : UInt8) : ∀ k, k ≤ 8 → crcBits k (x ^^^ c.toUInt32) = refBits k x c ^^^ UInt32.ofNat (c.toNat >>> k)
  | 0, _ => by
    simp only [crcBits, refBits, Nat.shiftRight_zero]
    congr 1
    apply UInt32.toNat_inj.1
    simp
  | k + 1, hk => by
    have ih := crcBits_refBits x c k (by omega)
    simp only [crcBits, refBits]
    rw [ih, refBit_eq]
    have hs : UInt32.ofNat (c.toNat >>> k) = (if c.toNat.testBit k then (1 : UInt32) else 0) ^^^ ((UInt32.ofNat (c.toNat >>> (k + 1))) <<< 1) := by
      have hlt : c.toNat >>> k < 256 := Nat.lt_of_le_of_lt (Nat.shiftRight_le _ _) c.toNat_lt
      have hb : c.toNat.testBit k = decide ((c.toNat >>> k) % 2 = 1) := by rw [Nat.testBit_eq_decide_div_mod_eq, Nat.shiftRight_eq_div_pow]
      have hd : c.toNat >>> (k + 1) = (c.toNat >>> k) / 2 := by rw [Nat.shiftRight_succ]
      rw [hb, hd]
      exact split8 _ hlt
    rw [hs, ← UInt32.xor_assoc, crcBit_xor]
    congr 1
    rw [crcBit_even _ (by simp [xbit])]
    exact shl_shr8 _ (Nat.lt_of_le_of_lt (Nat.shiftRight_le _ _) c.toNat_lt)
theorem refBits_byte (x : UInt32) (c : UInt8) : refBits 8 x c = crcByte x c := by
  have h := crcBits_refBits x c 8 (Nat.le_refl _)
  have h0 : c.toNat >>> 8 = 0 := by rw [Nat.shiftRight_eq_div_pow]; exact Nat.div_eq_of_lt c.toNat_lt
  rw [h0] at h
  unfold crcByte
  rw [h]
  simp
theorem ones_bit (i : Nat) (h : i < 32) : xbit (~~~ 0) i = true := by
  have : ∀ i, i < 32 → xbit (~~~ 0) i = true := by decide +kernel
  exact this i h
/-- The machine's test of one bit of a byte. -/
theorem byte_bit (c : UInt8) (j : Nat) : (((c.toNat : Int) / 2 ^ j).tmod 2 == 1) = c.toNat.testBit j := by
  rw [Nat.testBit_eq_decide_div_mod_eq]
  have e : ((c.toNat : Int) / 2 ^ j) = ((c.toNat / 2 ^ j : Nat) : Int) := by rw [Int.natCast_ediv, Int.natCast_pow]; rfl
  rw [e, Int.tmod_eq_emod_of_nonneg (Int.natCast_nonneg _)]
  generalize c.toNat / 2 ^ j = m
  by_cases h : m % 2 = 1
  · simp only [h, decide_true, beq_iff_eq]; omega
  · simp only [h, decide_false, beq_eq_false_iff_ne]; omega
theorem poly_bit (m : Nat) (h : m < 32) : (((3988292384 : Int) / 2 ^ m).tmod 2 == 1) = xbit poly m := by
  have : ∀ m, m < 32 → (((3988292384 : Int) / 2 ^ m).tmod 2 == 1) = xbit poly m := by decide +kernel
  exact this m h
theorem refBit_bit (y : UInt32) (b u : Bool) (hu : u = (xbit y 0 != b)) (m : Nat) : xbit (refBit y b) m = (xbit (y >>> 1) m ^^ (u && xbit poly m)) := by
  unfold refBit
  rw [← hu, xbit_xor]
  cases u <;> simp [xbit_zero]
theorem add_pow (n m : Nat) (hm : m < 32) (h : n < 2 ^ m) : ((n : Int) + 2 ^ m % 4294967296) % 4294967296 = ((n + 2 ^ m : Nat) : Int) := by
  have h1 : 2 ^ m ≤ 2147483648 := Nat.pow_le_pow_right (n := 2) (by decide) (show m ≤ 31 by omega)
  have e : (2 : Int) ^ m = ((2 ^ m : Nat) : Int) := by rw [Int.natCast_pow]; rfl
  rw [e]
  omega
theorem not_bits (x : UInt32) (k : Nat) (hk : k < 32) : (~~~ x).toNat % 2 ^ (k + 1) = (~~~ x).toNat % 2 ^ k + (if xbit x k = true then 0 else 2 ^ k) := by
  have hb : (~~~ x).toNat.testBit k = !xbit x k := by
    have : (~~~ x).toNat.testBit k = (~~~ x).toBitVec.getLsbD k := rfl
    rw [this]
    simp [xbit, hk]
  rw [Nat.testBit_eq_decide_div_mod_eq] at hb
  rw [Nat.mod_pow_succ]
  have h2 : (~~~ x).toNat / 2 ^ k % 2 < 2 := Nat.mod_lt _ (by decide)
  cases hx : xbit x k with
  | true =>
    rw [hx] at hb
    have : (~~~ x).toNat / 2 ^ k % 2 = 0 := by have := of_decide_eq_false hb; omega
    rw [this]; simp
  | false =>
    rw [hx] at hb
    have : (~~~ x).toNat / 2 ^ k % 2 = 1 := of_decide_eq_true hb
    rw [this]; simp
end Go.Proofs.Ytkmjcjhnfpkakaa
