/- A burst of at most 32 bits never leaves the sum right. -/
import Derived.Test.YtkmjcjhnfpkakaaCrcBits
import Derived.Test.YtkmjcjhnfpkakaaLawSeals
set_option linter.unusedVariables false
set_option linter.unusedSimpArgs false
namespace Go.Proofs.Ytkmjcjhnfpkakaa
open Go

def procF : Nat → UInt32 → (Nat → Bool) → UInt32
  | 0, s, _ => s
  | n + 1, s, e => refBit (procF n s e) (e n)
theorem procF_congr (s : UInt32) (e f : Nat → Bool) : ∀ n, (∀ p, p < n → e p = f p) → procF n s e = procF n s f
  | 0, _ => rfl
  | n + 1, h => by
    simp only [procF]
    rw [procF_congr s e f n (fun p hp => h p (by omega)), h n (by omega)]
theorem refBit_xor (a b : UInt32) (x y : Bool) : refBit (a ^^^ b) (x ^^ y) = refBit a x ^^^ refBit b y := by
  rw [refBit_eq, refBit_eq, refBit_eq, ← crcBit_xor]
  congr 1
  apply u32_ext
  intro i hi
  have h1 : xbit (if (x ^^ y) = true then 1 else 0) i = (xbit (if x = true then 1 else 0) i ^^ xbit (if y = true then 1 else 0) i) := by
    cases x <;> cases y <;> simp [xbit_zero]
  rw [xbit_xor, xbit_xor, xbit_xor, xbit_xor, xbit_xor, h1]
  generalize xbit (if x = true then 1 else 0) i = u
  generalize xbit (if y = true then 1 else 0) i = v
  cases xbit a i <;> cases xbit b i <;> cases u <;> cases v <;> rfl
theorem procF_xor (a b : UInt32) (e f : Nat → Bool) : ∀ n, procF n (a ^^^ b) (fun p => (e p ^^ f p)) = procF n a e ^^^ procF n b f
  | 0 => rfl
  | n + 1 => by simp only [procF]; rw [procF_xor a b e f n, refBit_xor]
theorem refBit_false (s : UInt32) : refBit s false = crcBit s := by rw [refBit_eq]; simp
theorem procF_false (s : UInt32) (e : Nat → Bool) : ∀ n, (∀ p, p < n → e p = false) → procF n s e = crcBits n s
  | 0, _ => rfl
  | n + 1, h => by
    simp only [procF, crcBits]
    rw [procF_false s e n (fun p hp => h p (by omega)), h n (by omega), refBit_false]
theorem crcBits_zero0 : ∀ n, crcBits n 0 = 0
  | 0 => rfl
  | n + 1 => by simp only [crcBits]; rw [crcBits_zero0 n]; rfl
theorem procF_add (s : UInt32) (e : Nat → Bool) (n : Nat) : ∀ m, procF (n + m) s e = procF m (procF n s e) (fun p => e (n + p))
  | 0 => rfl
  | m + 1 => by
    show refBit (procF (n + m) s e) (e (n + m)) = _
    rw [procF_add s e n m]
    rfl
def shrN : Nat → UInt32 → UInt32
  | 0, v => v
  | k + 1, v => shrN k v >>> 1
theorem xbit_shrN (v : UInt32) : ∀ k i, xbit (shrN k v) i = xbit v (i + k)
  | 0, i => rfl
  | k + 1, i => by
    simp only [shrN]
    rw [xbit_shr, xbit_shrN v k (i + 1)]
    congr 1
    omega
theorem shrN_32 (v : UInt32) : shrN 32 v = 0 := by
  apply u32_ext
  intro i hi
  rw [xbit_shrN, xbit_zero, xbit_big _ _ (by omega)]
theorem bit_shr (y : UInt32) (b : Bool) : (y ^^^ (if b then 1 else 0)) >>> 1 = y >>> 1 := by
  apply u32_ext
  intro i hi
  rw [xbit_shr, xbit_shr, xbit_xor]
  cases b <;> simp [xbit]
theorem window (s v : UInt32) : ∀ k, crcBits k (s ^^^ v) = procF k s (xbit v) ^^^ shrN k v
  | 0 => rfl
  | k + 1 => by
    simp only [crcBits, procF]
    rw [window s v k]
    have hy : shrN k v = (if xbit v k then (1 : UInt32) else 0) ^^^ (shrN k v ^^^ (if xbit v k then (1 : UInt32) else 0)) := by
      rw [UInt32.xor_comm (shrN k v), ← UInt32.xor_assoc, UInt32.xor_self, UInt32.zero_xor]
    rw [hy, ← UInt32.xor_assoc, crcBit_xor, ← refBit_eq]
    congr 1
    rw [crcBit_even, bit_shr]
    · rfl
    · rw [xbit_xor, xbit_shrN]
      have : 0 + k = k := by omega
      rw [this]
      cases xbit v k <;> rfl
theorem window32 (s v : UInt32) : procF 32 s (xbit v) = crcBits 32 (s ^^^ v) := by
  rw [window, shrN_32, UInt32.xor_zero]
theorem crcBit_inj {x : UInt32} (h : crcBit x = 0) : x = 0 := by
  have h31 : xbit (crcBit x) 31 = xbit x 0 := by
    rw [crcBit_if, xbit_xor, xbit_shr, xbit_big x (31 + 1) (by omega)]
    cases xbit x 0 <;> decide
  rw [h, xbit_zero] at h31
  rw [crcBit_even x h31.symm] at h
  apply u32_ext
  intro i hi
  rw [xbit_zero]
  cases i with
  | zero => exact h31.symm
  | succ i =>
    have := congrArg (fun z => xbit z i) h
    simp only [xbit_shr, xbit_zero] at this
    exact this
theorem crcBits_inj {x : UInt32} : ∀ n, crcBits n x = 0 → x = 0
  | 0, h => h
  | n + 1, h => crcBits_inj n (crcBit_inj h)
/-- The bits of a row of bytes, the lowest bit of each byte first. -/
def bitAt (l : List UInt8) (p : Nat) : Bool := (l[p / 8]?.getD 0).toNat.testBit (p % 8)
theorem procF_byte (x : UInt32) (c : UInt8) : ∀ k, procF k x (fun p => c.toNat.testBit p) = refBits k x c
  | 0 => rfl
  | k + 1 => by simp only [procF, refBits]; rw [procF_byte x c k]
theorem raw_bits (s : UInt32) (l : List UInt8) : crcRaw s l = procF (8 * l.length) s (bitAt l) := by
  suffices h : ∀ n, n ≤ l.length → crcRaw s (l.take n) = procF (8 * n) s (bitAt l) by
    have := h l.length (Nat.le_refl _)
    rwa [List.take_length] at this
  intro n
  induction n with
  | zero => intro _; rfl
  | succ n ih =>
    intro hn
    rw [take_snoc l n (by omega), crcRaw_snoc, ← show crcByte (crcRaw s (l.take n)) l[n] = crcBits 8 (crcRaw s (l.take n) ^^^ l[n].toUInt32) from rfl, ← refBits_byte, ih (by omega), ← procF_byte, Nat.mul_succ, procF_add]
    apply procF_congr
    intro p hp
    unfold bitAt
    have e1 : (8 * n + p) / 8 = n := by omega
    have e2 : (8 * n + p) % 8 = p := by omega
    rw [e1, e2, List.getElem?_eq_getElem (by omega)]
    rfl
theorem le_bits (x p : Nat) (hx : x < 4294967296) (hp : p < 32) : bitAt (le32 x) p = x.testBit p := by
  unfold bitAt le32
  have key : ∀ j q, q < 8 → (UInt8.ofNat (x / 2 ^ j)).toNat.testBit q = x.testBit (j + q) := by
    intro j q hq
    rw [UInt8.toNat_ofNat', show (2 : Nat) ^ 8 = 2 ^ 8 from rfl, Nat.testBit_mod_two_pow, Nat.testBit_div_two_pow, decide_eq_true hq, Bool.true_and, Nat.add_comm]
  have hq : p % 8 < 8 := Nat.mod_lt _ (by decide)
  have hp8 : p = 8 * (p / 8) + p % 8 := by omega
  have h4 : p / 8 < 4 := by omega
  generalize p % 8 = q at *
  generalize p / 8 = n at *
  subst hp8
  match n, h4 with
  | 0, _ => have := key 0 q hq; simpa using this
  | 1, _ => have := key 8 q hq; simpa using this
  | 2, _ => have := key 16 q hq; simpa using this
  | 3, _ => have := key 24 q hq; simpa using this
/-- What the sum of a frame with its own sum behind it comes to. -/
theorem raw_right {l b : List UInt8} (h : openO l = some b) : crcRaw (~~~ 0) l = crcBits 32 (~~~ 0) := by
  have hb : sealO b = l := seal_open h
  have hb2 : b.length ≤ 262144 := by
    unfold openO at h
    cases hf : firstO l with
    | none => rw [hf] at h; cases h
    | some b' =>
      rw [hf] at h
      simp only at h
      split at h
      · injection h with h
        subst h
        exact (firstO_le hf).2.2
      · cases h
  have hs : l = sealB b := by rw [← hb]; exact if_pos hb2
  rw [hs]
  unfold sealB
  rw [crcRaw_append]
  generalize le32 b.length ++ b = m
  have e : crcSum m = ~~~ (crcRaw (~~~ 0) m) := rfl
  rw [e]
  generalize crcRaw (~~~ 0) m = st
  rw [raw_bits, le32_length]
  have e2 : procF (8 * 4) st (bitAt (le32 (~~~ st).toNat)) = procF 32 st (xbit (~~~ st)) :=
    procF_congr _ _ _ 32 (fun p hp => by rw [le_bits _ p (~~~ st).toNat_lt hp]; rfl)
  rw [e2, window32]
  congr 1
  apply u32_ext
  intro i hi
  rw [ones_bit i hi, xbit_xor]
  simp [xbit, hi]
/-- A frame in which the bits v, from bit p0 on, were turned. -/
def Turned (l l' : List UInt8) (p0 n : Nat) (v : UInt32) : Prop := l'.length = l.length ∧ ∀ p, p < 8 * l.length → bitAt l' p = (bitAt l p ^^ (decide (p0 ≤ p ∧ p < p0 + n) && xbit v (p - p0)))
theorem burst {l l' b b' : List UInt8} {p0 : Nat} {v : UInt32} (h : openO l = some b) (h' : openO l' = some b') (ht : Turned l l' p0 32 v) (hp : p0 + 32 ≤ 8 * l.length) : v = 0 := by
  have e1 := raw_right h
  have e2 := raw_right h'
  rw [raw_bits] at e1 e2
  rw [ht.1, procF_congr _ _ _ _ ht.2] at e2
  have e3 := procF_xor (~~~ 0) 0 (bitAt l) (fun p => decide (p0 ≤ p ∧ p < p0 + 32) && xbit v (p - p0)) (8 * l.length)
  rw [UInt32.xor_zero, e1, e2] at e3
  have e4 : procF (8 * l.length) 0 (fun p => decide (p0 ≤ p ∧ p < p0 + 32) && xbit v (p - p0)) = 0 := by
    have := congrArg (fun z => crcBits 32 (~~~ 0) ^^^ z) e3
    simp only [← UInt32.xor_assoc, UInt32.xor_self, UInt32.zero_xor] at this
    exact this.symm
  obtain ⟨r, hr⟩ : ∃ r, 8 * l.length = p0 + (32 + r) := ⟨8 * l.length - p0 - 32, by omega⟩
  rw [hr, procF_add, procF_false 0 _ p0 (fun p hp => by rw [decide_eq_false (by omega), Bool.false_and]), crcBits_zero0, procF_add] at e4
  rw [procF_congr 0 _ (xbit v) 32 (fun p hp => by rw [decide_eq_true (by omega), Bool.true_and]; congr 1; omega), window32] at e4
  rw [procF_false _ _ r (fun p hp => by rw [decide_eq_false (by omega), Bool.false_and])] at e4
  have := crcBits_inj _ (crcBits_inj _ e4)
  rwa [UInt32.zero_xor] at this
theorem bits_ext {l l' : List UInt8} (hl : l'.length = l.length) (h : ∀ p, p < 8 * l.length → bitAt l' p = bitAt l p) : l' = l := by
  apply List.ext_getElem hl
  intro k h1 h2
  apply UInt8.toNat_inj.1
  apply Nat.eq_of_testBit_eq
  intro i
  by_cases hi : i < 8
  · have := h (8 * k + i) (by omega)
    unfold bitAt at this
    rw [show (8 * k + i) / 8 = k by omega, show (8 * k + i) % 8 = i by omega, List.getElem?_eq_getElem h1, List.getElem?_eq_getElem h2] at this
    exact this
  · have h8 : ∀ c : UInt8, c.toNat.testBit i = false := fun c => Nat.testBit_lt_two_pow (Nat.lt_of_lt_of_le c.toNat_lt (Nat.pow_le_pow_right (by decide) (by omega)))
    rw [h8, h8]
theorem turned_zero {l l' : List UInt8} {p0 n : Nat} (ht : Turned l l' p0 n 0) : l' = l :=
  bits_ext ht.1 fun p hp => by rw [ht.2 p hp, xbit_zero, Bool.and_false, Bool.xor_false]
theorem Turned.start (l : List UInt8) (p0 : Nat) (v : UInt32) : Turned l l p0 0 v := ⟨rfl, fun p hp => by rw [decide_eq_false (by omega), Bool.false_and, Bool.xor_false]⟩
theorem Turned.skip {l l' : List UInt8} {p0 n : Nat} {v : UInt32} (h : Turned l l' p0 n v) (hv : xbit v n = false) : Turned l l' p0 (n + 1) v := by
  refine ⟨h.1, fun p hp => ?_⟩
  rw [h.2 p hp]
  congr 1
  by_cases hq : p = p0 + n
  · subst hq
    rw [decide_eq_false (by omega), show p0 + n - p0 = n by omega, hv, Bool.and_false, Bool.and_false]
  · congr 1
    simp only [decide_eq_decide]
    omega
theorem Turned.flip {l l' : List UInt8} {p0 n : Nat} {v : UInt32} (h : Turned l l' p0 n v) (hv : xbit v n = true) (k j : Nat) (hk : k < l'.length) (hj : j < 8) (hkj : 8 * k + j = p0 + n) (m : UInt8) (hm : m.toNat = 2 ^ j) : Turned l (l'.set k (l'[k] ^^^ m)) p0 (n + 1) v := by
  refine ⟨by rw [List.length_set]; exact h.1, fun p hp => ?_⟩
  have hb : bitAt (l'.set k (l'[k] ^^^ m)) p = (bitAt l' p ^^ decide (p = p0 + n)) := by
    unfold bitAt
    by_cases hpk : p / 8 = k
    · rw [hpk, List.getElem?_set_self hk, List.getElem?_eq_getElem hk]
      simp only [Option.getD_some, UInt8.toNat_xor, Nat.testBit_xor, hm, Nat.testBit_two_pow]
      congr 1
      simp only [decide_eq_decide]
      omega
    · rw [List.getElem?_set_ne (fun e => hpk e.symm), decide_eq_false (by omega), Bool.xor_false]
  rw [hb, h.2 p hp]
  by_cases hq : p = p0 + n
  · subst hq
    rw [decide_eq_true rfl, decide_eq_false (by omega), decide_eq_true (by omega), show p0 + n - p0 = n by omega, hv]
    simp
  · rw [decide_eq_false hq, Bool.xor_false]
    congr 2
    simp only [decide_eq_decide]
    omega
theorem u32_bit (v : UInt32) (j : Nat) : (((v.toNat : Int) / 2 ^ j).tmod 2 == 1) = xbit v j := by
  have e0 : xbit v j = v.toNat.testBit j := rfl
  rw [e0, Nat.testBit_eq_decide_div_mod_eq]
  have e : ((v.toNat : Int) / 2 ^ j) = ((v.toNat / 2 ^ j : Nat) : Int) := by rw [Int.natCast_ediv, Int.natCast_pow]; rfl
  rw [e, Int.tmod_eq_emod_of_nonneg (Int.natCast_nonneg _)]
  generalize v.toNat / 2 ^ j = m
  by_cases h : m % 2 = 1
  · simp only [h, decide_true, beq_iff_eq]; omega
  · simp only [h, decide_false, beq_eq_false_iff_ne]; omega
end Go.Proofs.Ytkmjcjhnfpkakaa
