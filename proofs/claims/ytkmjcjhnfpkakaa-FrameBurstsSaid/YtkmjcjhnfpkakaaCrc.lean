/- The sum of the chapter as a plain function on bytes: one bit, one byte, all bytes; the machine's bit operations as UInt32's. -/
import Derived.Laws.BitsLemmas
import Derived.WalkKit
set_option linter.unusedVariables false
namespace Go.Proofs.Ytkmjcjhnfpkakaa
open Go

def poly : UInt32 := 0xEDB88320
def crcBit (s : UInt32) : UInt32 := (s >>> 1) ^^^ (poly &&& (0 - (s &&& 1)))
def crcBits : Nat → UInt32 → UInt32
  | 0, s => s
  | n + 1, s => crcBit (crcBits n s)
def crcByte (s : UInt32) (b : UInt8) : UInt32 := crcBits 8 (s ^^^ b.toUInt32)
def crcRaw (s : UInt32) (l : List UInt8) : UInt32 := l.foldl crcByte s
def crcMore (s : UInt32) (l : List UInt8) : UInt32 := ~~~ (crcRaw (~~~ s) l)
def crcSum (l : List UInt8) : UInt32 := crcMore 0 l

theorem crcRaw_append (s : UInt32) (a b : List UInt8) : crcRaw s (a ++ b) = crcRaw (crcRaw s a) b := by simp [crcRaw]
theorem crcMore_append (s : UInt32) (a b : List UInt8) : crcMore (crcMore s a) b = crcMore s (a ++ b) := by
  simp [crcMore, crcRaw_append, UInt32.not_not]
theorem crcMore_nil (s : UInt32) : crcMore s [] = s := by simp [crcMore, crcRaw, UInt32.not_not]

theorem u32_ofInt (a : UInt32) : BitVec.ofInt 32 (a.toNat : Int) = a.toBitVec := by
  apply BitVec.eq_of_toNat_eq
  rw [BitVec.toNat_ofInt]
  have := a.toNat_lt
  simp
  omega
theorem bits_u32 (op : BinOp) (a b : UInt32) : bits op .u32 (a.toNat : Int) (b.toNat : Int) = ((match op with | .and => a &&& b | .or => a ||| b | .xor => a ^^^ b | _ => a &&& ~~~ b).toNat : Int) := by
  unfold bits
  simp only [IntKind.bits, u32_ofInt]
  rw [IntKind.wrap_u32]
  have h : ∀ x : BitVec 32, ((x.toNat : Int) % 4294967296) = x.toNat := fun x => by have := x.isLt; omega
  rw [h]
  cases op <;> rfl
theorem bits_xor32 (a b : UInt32) : bits .xor .u32 (a.toNat : Int) (b.toNat : Int) = ((a ^^^ b).toNat : Int) := bits_u32 .xor a b
theorem bits_and32 (a b : UInt32) : bits .and .u32 (a.toNat : Int) (b.toNat : Int) = ((a &&& b).toNat : Int) := bits_u32 .and a b
theorem bits_or32 (a b : UInt32) : bits .or .u32 (a.toNat : Int) (b.toNat : Int) = ((a ||| b).toNat : Int) := bits_u32 .or a b
theorem not32 (s : UInt32) : bits .xor .u32 IntKind.u32.max (s.toNat : Int) = ((~~~ s).toNat : Int) := by
  have : IntKind.u32.max = ((0xFFFFFFFF : UInt32).toNat : Int) := by decide
  rw [this, bits_xor32]
  congr 2
theorem wrap32_byte (b : UInt8) : ((b.toNat : Int) % 4294967296) = ((b.toUInt32).toNat : Int) := by
  have := b.toNat_lt
  simp
  omega
theorem crc_step (z : UInt32) : bits .xor .u32 ((z.toNat : Int) / 2) (bits .and .u32 3988292384 (-bits .and .u32 (z.toNat : Int) 1 % 4294967296)) = ((crcBit z).toNat : Int) := by
  have e1 : (1 : Int) = ((1 : UInt32).toNat : Int) := by decide
  have e2 : (3988292384 : Int) = (poly.toNat : Int) := by decide
  have e3 : (z.toNat : Int) / (2 : Int) = ((z >>> 1).toNat : Int) := by
    rw [UInt32.toNat_shiftRight]
    simp [Nat.shiftRight_eq_div_pow]
  rw [e1, bits_and32, e3]
  have e4 : (-(((z &&& 1).toNat : Nat) : Int)) % 4294967296 = ((0 - (z &&& 1)).toNat : Int) := by
    have := (z &&& 1).toNat_lt
    rw [UInt32.toNat_sub]
    simp
    omega
  rw [e4, e2, bits_and32, bits_xor32]
  rfl
theorem crcBits_zero (s : UInt32) : crcBits 0 s = s := rfl
theorem crcRaw_snoc (s : UInt32) (l : List UInt8) (b : UInt8) : crcRaw s (l ++ [b]) = crcBits 8 (crcRaw s l ^^^ b.toUInt32) := by simp [crcRaw, crcByte]
theorem take_snoc {α : Type} (l : List α) (k : Nat) (h : k < l.length) : l.take (k + 1) = l.take k ++ [l[k]] := by
  rw [List.take_succ_eq_append_getElem h]
theorem flat_snoc {α : Type} (l : List (List α)) (k : Nat) (h : k < l.length) : (l.take (k + 1)).flatten = (l.take k).flatten ++ l[k] := by
  rw [take_snoc l k h, List.flatten_append]; simp
end Go.Proofs.Ytkmjcjhnfpkakaa
