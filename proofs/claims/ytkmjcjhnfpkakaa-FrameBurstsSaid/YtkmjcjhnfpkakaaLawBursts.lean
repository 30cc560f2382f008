/- FrameBursts: the walk of the law. -/
import Derived.Test.YtkmjcjhnfpkakaaCrcBurst
import Derived.Test.YtkmjcjhnfpkakaaLawCuts
set_option linter.unusedVariables false
set_option linter.unusedSimpArgs false
namespace Go.Proofs.Ytkmjcjhnfpkakaa
open Go Go.RowKit

theorem xor8_bits (a b : UInt8) : bits .xor .u8 (a.toNat : Int) (b.toNat : Int) = ((a ^^^ b).toNat : Int) := by
  unfold bits
  have h : ∀ x : UInt8, BitVec.ofInt 8 (x.toNat : Int) = x.toBitVec := by
    intro x
    apply BitVec.eq_of_toNat_eq
    rw [BitVec.toNat_ofInt]
    have := x.toNat_lt
    simp
    omega
  simp only [IntKind.bits, h]
  rw [IntKind.wrap_u8]
  have := (a ^^^ b).toNat_lt
  show ((a.toBitVec ^^^ b.toBitVec).toNat : Int) % 256 = _
  have e : (a.toBitVec ^^^ b.toBitVec).toNat = (a ^^^ b).toNat := rfl
  rw [e]
  omega

set_option maxRecDepth 8000 in
set_option maxHeartbeats 8000000 in
theorem FrameBursts_calls (A : Option Addr) (c : Nat) (other : List UInt8) (v : UInt32) (at_ : Int) (w : World) (ha : -9223372036854775808 ≤ at_ ∧ at_ ≤ 9223372036854775807) (hc : other.length ≤ c) (hm : c ≤ maxLen) (hr : Row kb w (fun k => k < w.heap.size) A other) :
    Calls Try.prog 5 #[.slice A other.length c, .int .u32 v.toNat, .int .i64 at_] w fun e w' => e = .returned (.bool true) ∧ Below w.heap.size w w' := by
  have Hsh := Lib.hid (short_calls A c other _ 300 w (by omega) hc hm hr)
  go_enter Try.func5, Try.ntmps5
  go_wp2_with fail
  refine Hsh.out.mono ?_
  rintro e w1 ⟨⟨vo, rfl, hso⟩, rfl⟩
  have hbl : (other.take 300).length ≤ 300 := by rw [List.length_take]; omega
  generalize other.take 300 = b at *
  obtain ⟨Ab, cb, e1, hcb, hmb, hrb⟩ := hso
  subst e1
  have HB := Below.refl w.heap.size w
  clear Hsh hr hc hm
  go_wp2_with fail
  refine (Seal1_calls _ w.heap.size Ab cb b (by omega) (cell_new0 _ _ _) hcb hmb (hrb.lt.alloc _).lt).mono ?_
  rintro e w2 ⟨vs, rfl, hos, hb2⟩
  have HB2 : Below w.heap.size w w2 := ((Below.refl w.heap.size w).alloc (Nat.le_refl _) _).trans (hb2.mono (by simp))
  have hos := hos.lower (B' := w.heap.size) (by simp)
  have hsl : (sealO b).length = b.length + 8 := sealO_len (by omega)
  have Hop := Lib.hid (open_seal (b := b) (by omega))
  generalize sealO b = s at *
  have hq : ((s.length : Int) != (b.length : Int) + 8) = false := by simp; omega
  have hs8 : 8 ≤ s.length := by omega
  have hs308 : s.length ≤ 308 := by omega
  have Hsl := Lib.hid hsl
  clear hsl hb2
  obtain ⟨As, cs, e1, hcs, hms⟩ := hos.slice
  subst e1
  go_upto_if 29 with fail
  clear hq
  go_cut [2] (fun v wx => ∃ p : Nat, p + 32 ≤ 8 * s.length ∧ v = .int .i64 p ∧ wx = w2)
  case first =>
    have e1 := Int.tmod_lt_of_pos at_ (show (0 : Int) < 8 * s.length - 31 by omega)
    have e2 : -(8 * (s.length : Int) - 31) < at_.tmod (8 * s.length - 31) := by
      have := Int.lt_tmod_of_pos at_ (show (0 : Int) < 8 * s.length - 31 by omega)
      omega
    generalize at_.tmod (8 * s.length - 31) = x at *
    go_wp2
    all_goals go_meet
    · exact ⟨(-x).toNat, by omega, by simp; omega, rfl⟩
    · exact ⟨x.toNat, by omega, by simp; omega, rfl⟩
  case rest =>
    obtain ⟨p, hp, rfl, rfl⟩ := hcut
    go_wp2_with fail
    go_loopw [8] (fun i w' => ∃ (k : Nat) (xs : List UInt8), k ≤ 32 ∧ i = .int .i64 k ∧ Hid (Turned s xs p k v) ∧ xs.length = s.length ∧ Own kb 5 w' w.heap.size (fun _ => False) (.slice As s.length cs) xs ∧ Below w.heap.size w w') (fun i _ => 32 - (intOf i).toNat)
    case atStart => exact ⟨0, s, by omega, rfl, Lib.hid (Turned.start s p v), rfl, hos, HB2⟩
    case round =>
      clear hos HB2
      obtain ⟨k, xs, hk, rfl, Ht, hxl, ho, HB2⟩ := hrel
      by_cases hlt : k < 32
      · have hu := u32_bit v k
        by_cases hv : xbit v k = true
        · rw [hv] at hu
          obtain ⟨q, j, hqj, hj, hq, hd1, hd2⟩ : ∃ q j : Nat, 8 * q + j = p + k ∧ j < 8 ∧ q < xs.length ∧ ((p : Int) + k).tdiv 8 = (q : Int) ∧ ((p : Int) + k).tmod 8 = (j : Int) := by
            refine ⟨(p + k) / 8, (p + k) % 8, by omega, by omega, by omega, ?_, ?_⟩
            · rw [Int.tdiv_eq_ediv_of_nonneg (by omega)]; omega
            · rw [Int.tmod_eq_emod_of_nonneg (by omega)]; omega
          have hqs : q < s.length := by omega
          obtain ⟨g, c', u, e3, hg, hc, ⟨hu8, _⟩, hf, hset⟩ := ho.put1 rfl q hq
          rw [hxl] at e3
          cases e3
          simp only [List.cons.injEq, and_true] at hu8
          subst hu8
          have hpw : (UInt8.ofNat (2 ^ j)).toNat = 2 ^ j := by
            rw [UInt8.toNat_ofNat']
            exact Nat.mod_eq_of_lt (Nat.pow_lt_pow_right (by decide) hj)
          have hwx : bits .xor .u8 (xs[q].toNat : Int) (2 ^ j % 256) = ((xs[q] ^^^ UInt8.ofNat (2 ^ j)).toNat : Int) := by
            have e : ((2 : Int) ^ j % 256) = ((UInt8.ofNat (2 ^ j)).toNat : Int) := by
              rw [hpw]
              have : 2 ^ j < 2 ^ 8 := Nat.pow_lt_pow_right (by decide) hj
              have e : (2 : Int) ^ j = ((2 ^ j : Nat) : Int) := by rw [Int.natCast_pow]; rfl
              rw [e]
              omega
            rw [e, xor8_bits]
          have Hwx := Lib.hid hwx
          have Ht2 := Lib.hid (Ht.out.flip hv q j hq hj hqj (UInt8.ofNat (2 ^ j)) hpw)
          have Hst := Lib.hid (hset (xs[q] ^^^ UInt8.ofNat (2 ^ j)) (.int .u8 (xs[q] ^^^ UInt8.ofNat (2 ^ j)).toNat) (fun _ _ => ⟨rfl, trivial⟩) (fun _ h => h.elim))
          have Hlx := Lib.hid (show (xs.set q (xs[q] ^^^ UInt8.ofNat (2 ^ j))).length = s.length by rw [List.length_set]; exact hxl)
          clear hpw hwx hset
          go_wp2
          rw [Hwx.out]
          go_roundw
          case rel => exact ⟨k + 1, _, hlt, by go_num, Ht2, Hlx.out, Hst.out, HB2.setCell (p := ⟨g, q, none⟩) (show w.heap.size ≤ g from hg) _⟩
          case measure => simp [intOf]; omega
        · have hv : xbit v k = false := by simpa using hv
          rw [hv] at hu
          go_wp2
          go_roundw
          case rel => exact ⟨k + 1, xs, hlt, by go_num, Lib.hid (Ht.out.skip hv), hxl, ho, HB2⟩
          case measure => simp [intOf]; omega
      · obtain rfl : k = 32 := by omega
        have Hz := Lib.hid (fun (h : v = 0) => turned_zero (h ▸ Ht.out))
        have Hnz := Lib.hid (fun (h : v ≠ 0) => show openO xs = none by
          cases ho : openO xs with
          | none => rfl
          | some b' => exact absurd (burst Hop.out ho Ht.out (by omega)) h)
        obtain ⟨_, _, e3, _, _, hrx⟩ := ho.lt
        rw [← hxl] at e3
        cases e3
        have hcall := Open_calls As cs xs _ wr (by omega) (by omega) hms hrx
        unfold OpenPost at hcall
        rw [hxl] at hcall
        by_cases hv0 : v = 0
        · subst hv0
          have hxs := Hz.out rfl
          subst hxs
          rw [Hop.out] at hcall
          simp only [Option.isSome, Option.getD] at hcall
          have Hcall := Lib.hid hcall
          clear hcall hrx ho
          go_wp2_with fail
          refine Hcall.out.mono ?_
          rintro e w5 ⟨vx, rfl, hox, hb5⟩
          have HB5 := HB2.trans (hb5.mono HB2.size)
          have hrb5 := hrb.below HB5
          obtain ⟨Ax, cx, e1, hcx, hmx, hrx⟩ := hox.lt
          subst e1
          have Hcv := Lib.hid (And.intro (conv_str (hrx) 24 9 5 cx Try.underlying24 Try.underlying5 Try.underlying9) (conv_str (hrb5) 24 9 5 cb Try.underlying24 Try.underlying5 Try.underlying9))
          obtain ⟨hcv1, hcv2⟩ := Hcv.out
          clear hrx hrb5 hox hb5 hrb
          go_wp2_with fail
          clear hcv1 hcv2
          refine (awake_calls w5).mono ?_
          rintro e w10 ⟨rfl, hb10⟩
          go_wp2
          go_ret
          exact ⟨rfl, HB5.trans (hb10.mono HB5.size)⟩
        · have hvn : ((v.toNat : Int) == 0) = false := by
            have : v.toNat ≠ 0 := fun h => hv0 (UInt32.toNat_inj.1 h)
            simp; omega
          rw [Hnz.out hv0] at hcall
          simp only [Option.isSome, Option.getD, List.length_nil] at hcall
          have Hcall := Lib.hid hcall
          clear hcall hrx ho
          go_wp2_with fail
          refine Hcall.out.mono ?_
          rintro e w5 ⟨vx, rfl, hox, hb5⟩
          have HB5 := HB2.trans (hb5.mono HB2.size)
          obtain ⟨Ax, cx, e1, hcx, hmx⟩ := hox.slice
          subst e1
          simp only [List.length_nil]
          clear hox hb5 hrb
          go_wp2_with fail
          refine (awake_calls w5).mono ?_
          rintro e w10 ⟨rfl, hb10⟩
          go_wp2
          go_ret
          exact ⟨rfl, HB5.trans (hb10.mono HB5.size)⟩
theorem FrameBursts_calls1 (A : Option Addr) (c : Nat) (other : List UInt8) (a : Int) (at_ : Int) (w : World) (hy : 0 ≤ a ∧ a ≤ 4294967295) (ha : -9223372036854775808 ≤ at_ ∧ at_ ≤ 9223372036854775807) (hc : other.length ≤ c) (hm : c ≤ maxLen) (hr : Row kb w (fun k => k < w.heap.size) A other) :
    Calls Try.prog 5 #[.slice A other.length c, .int .u32 a, .int .i64 at_] w fun e w' => e = .returned (.bool true) ∧ Below w.heap.size w w' := by
  have e : a = ((UInt32.ofNat a.toNat).toNat : Int) := by
    rw [UInt32.toNat_ofNat']
    omega
  rw [e]
  exact FrameBursts_calls A c other _ at_ w ha hc hm hr
end Go.Proofs.Ytkmjcjhnfpkakaa
