/- Contracts of wire.Reader's methods: Uint, Int, Err, At, Left, End, Byte, Flag, Text. -/
import Derived.Test.YtaomhedjamnloaaWire2
import Derived.Lib.ConvBytes
import Derived.BigQuiet
set_option linter.unusedVariables false
set_option linter.unusedSimpArgs false
namespace Go.Proofs.Ytaomhedjamnloaa
open Go Go.RowKit

def EndR (x : RdM) : RdM := if 0 < leftR x then failR x 6 else x
def ByteR (x : RdM) : Int × RdM := if x.err = 0 then (if leftR x = 0 then (0, failR x 6) else (((x.bs.getD x.pos 0).toNat : Int), ⟨x.bs, x.pos + 1, x.err⟩)) else (0, x)
def FlagR (x : RdM) : Bool × RdM := if x.err = 0 then (if leftR x = 0 ∨ 1 < (x.bs.getD x.pos 0).toNat then (false, failR x 6) else (decide ((x.bs.getD x.pos 0).toNat = 1), ⟨x.bs, x.pos + 1, x.err⟩)) else (false, x)
/-- The same error, the old place. -/
def backR (x y : RdM) : RdM := ⟨y.bs, x.pos, y.err⟩
/-- A text of n bytes. -/
def TextR (x : RdM) (most : Int) : ByteArray × RdM :=
  if x.err = 0 then
    (if (uintR x).2.err = 0 then
      (if (max most 0).toNat < (uintR x).1 then (⟨#[]⟩, backR x (failR (uintR x).2 7))
       else if leftR (uintR x).2 < (uintR x).1 then (⟨#[]⟩, backR x (failR (uintR x).2 6))
       else (⟨(((uintR x).2.bs.drop (uintR x).2.pos).take (uintR x).1).toArray⟩, ⟨(uintR x).2.bs, (uintR x).2.pos + (uintR x).1, (uintR x).2.err⟩))
     else (⟨#[]⟩, backR x (uintR x).2))
  else (⟨#[]⟩, x)
theorem uintR_lt (x : RdM) : (uintR x).1 < 18446744073709551616 := by
  unfold uintR
  cases h : getU 0 0 (x.bs.drop x.pos) with
  | none => exact Nat.zero_lt_succ _
  | some p =>
    obtain ⟨_, _, _, _, _, h4⟩ := getU_of _ _ _ _ h (by decide)
    exact h4
theorem uintR_bs (x : RdM) : (uintR x).2.bs = x.bs := by
  unfold uintR
  split
  · rfl
  · unfold failR; split <;> rfl
set_option maxRecDepth 8000 in
set_option maxHeartbeats 2000000 in
theorem rdUint_calls (w : World) (B g : Nat) (A : Option Addr) (c : Nat) (x : RdM) (h : RdAt w B g A c x) :
    Calls Try.prog 107 #[.pointer (some ⟨g, 0, none⟩)] w (RdPost w B g A c (UintR x).2 (.int .u64 (UintR x).1)) := by
  have Hg := Lib.hid (good_calls w B g A c x h)
  have Hu := Lib.hid (uint_calls w B g A c x h)
  by_cases he : x.err = 0
  · have hd : decide (x.err = 0) = true := decide_eq_true he
    rw [show UintR x = uintR x from if_pos he]
    go_enter Try.func107, Try.ntmps107
    go_wp2_with fail
    refine Hg.out.mono ?_
    rintro e w' ⟨rfl, rfl⟩
    go_wp2_with fail
    refine Hu.out.mono ?_
    rintro e w' ⟨rfl, hr, hm⟩
    go_wp2
    go_ret
    exact hr.post hm _
  · have hd : decide (x.err = 0) = false := decide_eq_false he
    rw [show UintR x = (0, x) from if_neg he]
    go_enter Try.func107, Try.ntmps107
    go_wp2_with fail
    refine Hg.out.mono ?_
    rintro e w' ⟨rfl, rfl⟩
    go_wp2
    go_ret
    exact h.post (Mut.refl _ _) _
theorem UintR_lt (x : RdM) : (UintR x).1 < 18446744073709551616 := by
  unfold UintR
  split
  · exact uintR_lt x
  · exact Nat.zero_lt_succ _
theorem xori_zero (a : Nat) (h : a < 9223372036854775808) : bits .xor .i64 (a : Int) 0 = (a : Int) := by
  have e : bits .xor .i64 (a : Int) 0 = IntKind.i64.wrap (((BitVec.ofInt 64 (a : Int) ^^^ BitVec.ofInt 64 0).toNat : Nat) : Int) := rfl
  rw [e, BitVec.ofInt_natCast, show BitVec.ofInt 64 0 = 0#64 from rfl, BitVec.xor_zero, BitVec.toNat_ofNat, Nat.mod_eq_of_lt (by omega), IntKind.wrap_i64]
  omega
theorem xori_ones (a : Nat) (h : a < 9223372036854775808) : bits .xor .i64 (a : Int) (-1) = -(a : Int) - 1 := by
  have e : bits .xor .i64 (a : Int) (-1) = IntKind.i64.wrap (((BitVec.ofInt 64 (a : Int) ^^^ BitVec.ofInt 64 (-1)).toNat : Nat) : Int) := rfl
  rw [e, BitVec.ofInt_natCast, show BitVec.ofInt 64 (-1) = BitVec.allOnes 64 from rfl, BitVec.xor_allOnes, BitVec.toNat_not, BitVec.toNat_ofNat, Nat.mod_eq_of_lt (by omega), IntKind.wrap_i64]
  omega
theorem and1 (n : Nat) (h : n < 18446744073709551616) : bits .and .u64 (n : Int) 1 = ((n % 2 : Nat) : Int) := by
  have := bits_mask .u64 64 (by decide) wraps_u64 1 (by decide) (n : Int) (by omega) (by omega)
  rw [show (2 : Int) ^ 1 - 1 = 1 by decide, show (2 : Int) ^ 1 = 2 by decide] at this
  rw [this]
  omega
theorem zag_bits (n : Nat) (h : n < 18446744073709551616) : bits .xor .i64 (wrap64 ((n : Int) / 2)) (wrap64 (-(wrap64 (bits .and .u64 (n : Int) 1)))) = zag n := by
  rw [and1 n h]
  unfold wrap64
  unfold zag
  have e0 : ((n : Int) / 2 + 9223372036854775808) % 18446744073709551616 - 9223372036854775808 = ((n / 2 : Nat) : Int) := by omega
  rw [e0]
  by_cases h2 : n % 2 = 0
  · rw [if_pos h2, h2]
    exact xori_zero _ (by omega)
  · rw [if_neg h2, show n % 2 = 1 by omega]
    exact xori_ones _ (by omega)
set_option maxRecDepth 8000 in
set_option maxHeartbeats 2000000 in
theorem rdInt_calls (w : World) (B g : Nat) (A : Option Addr) (c : Nat) (x : RdM) (h : RdAt w B g A c x) :
    Calls Try.prog 117 #[.pointer (some ⟨g, 0, none⟩)] w (RdPost w B g A c (IntR x).2 (.int .i64 (IntR x).1)) := by
  have Hu := Lib.hid (rdUint_calls w B g A c x h)
  go_enter Try.func117, Try.ntmps117
  go_wp2_with fail
  refine Hu.out.mono ?_
  rintro e w' ⟨rfl, hr, hm⟩
  have Hz := Lib.hid (zag_bits (UintR x).1 (UintR_lt x))
  have Hf := Lib.hid (show ∀ n : Int, n = zag (UintR x).1 → RdPost w B g A c (IntR x).2 (.int .i64 (IntR x).1) (.returned (.int .i64 n)) w' by
    rintro n rfl
    exact hr.post hm _)
  generalize (UintR x).1 = n at *
  go_wp2
  go_ret
  exact Hf.out _ Hz.out
set_option maxRecDepth 8000 in
set_option maxHeartbeats 2000000 in
theorem rdErr_calls (w : World) (B g : Nat) (A : Option Addr) (c : Nat) (x : RdM) (h : RdAt w B g A c x) :
    Calls Try.prog 60 #[.pointer (some ⟨g, 0, none⟩)] w fun e w' => e = .returned (.int .i64 x.err) ∧ w = w' := by
  obtain ⟨h0, h1, h2⟩ := h.cells
  go_enter Try.func60, Try.ntmps60
  go_wp2
  go_ret
  exact ⟨rfl, rfl⟩
set_option maxRecDepth 8000 in
set_option maxHeartbeats 2000000 in
theorem rdEnd_calls (w : World) (B g : Nat) (A : Option Addr) (c : Nat) (x : RdM) (h : RdAt w B g A c x) :
    Calls Try.prog 62 #[.pointer (some ⟨g, 0, none⟩)] w (RdPost w B g A c (EndR x) (.int .i64 (EndR x).err)) := by
  have Hl := Lib.hid (left_calls w B g A c x h)
  go_enter Try.func62, Try.ntmps62
  go_wp2_with fail
  refine Hl.out.mono ?_
  rintro e w' ⟨rfl, n, rfl⟩
  have hq := h.drewN n
  have hm := (Mut.refl g w).drewN n
  generalize w.drewN n = w1 at *
  by_cases hp : 0 < leftR x
  · have hE : EndR x = failR x 6 := if_pos hp
    have Hf := Lib.hid (show ∀ W, RdAt W B g A c (failR x 6) → Mut g w W → RdPost w B g A c (EndR x) (.int .i64 (EndR x).err) (.returned (.int .i64 (failR x 6).err)) W by
      intro W hr hm
      rw [hE]
      exact hr.post hm _)
    clear hE
    go_wp2_with fail
    refine (fail_calls w1 B g A c x hq 6).mono ?_
    rintro e w2 ⟨rfl, hr, hm2⟩
    obtain ⟨h0, h1, h2⟩ := hr.cells
    go_wp2
    go_ret
    exact Hf.out _ hr (hm.trans hm2)
  · have hE : EndR x = x := if_neg hp
    have Hf := Lib.hid (show RdPost w B g A c (EndR x) (.int .i64 (EndR x).err) (.returned (.int .i64 x.err)) w1 by
      rw [hE]
      exact hq.post hm _)
    clear hE
    obtain ⟨h0, h1, h2⟩ := hq.cells
    have hz : leftR x = 0 := by omega
    rw [hz]
    go_wp2
    go_ret
    exact Hf.out
theorem cutA_lt {ad : Addr} {c p : Nat} (h : p < c) : cutA (some ad) c p 1 = some (ad.add p) := by
  unfold cutA
  rw [if_neg (by omega), Nat.mul_one]
  rfl
/-- One byte taken. -/
theorem take1_calls (w : World) (B g : Nat) (ad : Addr) (c : Nat) (x : RdM) (h : RdAt w B g (some ad) c x) (hn : x.pos < x.bs.length) :
    Calls Try.prog 106 #[.pointer (some ⟨g, 0, none⟩), .int .i64 1] w fun e w' => e = .returned (.slice (some (ad.add x.pos)) 1 (c - x.pos)) ∧ RdAt w' B g (some ad) c ⟨x.bs, x.pos + 1, x.err⟩ ∧ Mut g w w' ∧ w'.cell? (ad.add x.pos) = some (.int .u8 ((x.bs.getD x.pos 0).toNat : Int)) := by
  have ht := take_calls w B g (some ad) c x h 1 hn
  rw [cutA_lt (by have := h.cap; omega)] at ht
  refine ht.mono ?_
  rintro e w' ⟨rfl, hr, hm⟩
  refine ⟨rfl, hr, hm, ?_⟩
  obtain ⟨ad2, e, hc⟩ := hr.row.u8_at x.pos hn
  injection e with e
  subst e
  rw [hc]
  simp [hn]
set_option maxRecDepth 8000 in
set_option maxHeartbeats 2000000 in
theorem rdByte_calls (w : World) (B g : Nat) (A : Option Addr) (c : Nat) (x : RdM) (h : RdAt w B g A c x) :
    Calls Try.prog 58 #[.pointer (some ⟨g, 0, none⟩)] w (RdPost w B g A c (ByteR x).2 (.int .i64 (ByteR x).1)) := by
  have Hg := Lib.hid (good_calls w B g A c x h)
  have Hl := Lib.hid (left_calls w B g A c x h)
  by_cases he : x.err = 0
  · have hd : decide (x.err = 0) = true := decide_eq_true he
    by_cases hz : leftR x = 0
    · rw [show ByteR x = (0, failR x 6) by unfold ByteR; rw [if_pos he, if_pos hz]]
      go_enter Try.func58, Try.ntmps58
      go_wp2_with fail
      refine Hg.out.mono ?_
      rintro e w' ⟨rfl, rfl⟩
      go_wp2_with fail
      refine Hl.out.mono ?_
      rintro e w' ⟨rfl, n, rfl⟩
      rw [hz]
      go_wp2_with fail
      refine (fail_calls _ B g A c x (h.drewN n) 6).mono ?_
      rintro e w2 ⟨rfl, hr, hm2⟩
      go_wp2
      go_ret
      exact hr.post (((Mut.refl g w).drewN n).trans hm2) _
    · have hlt : x.pos < x.bs.length := by unfold leftR at hz; omega
      rw [show ByteR x = (((x.bs.getD x.pos 0).toNat : Int), ⟨x.bs, x.pos + 1, x.err⟩) by unfold ByteR; rw [if_pos he, if_neg hz]]
      obtain ⟨ad, rfl, _⟩ := h.row.u8_at x.pos hlt
      have Hlz := Lib.hid (show ((leftR x : Int) == 0) = false by rw [beq_eq_false_iff_ne]; omega)
      have hbt := (x.bs.getD x.pos 0).toNat_lt
      generalize hgt : (x.bs.getD x.pos 0).toNat = bt at *
      have Hgt := Lib.hid hgt
      clear hgt
      go_enter Try.func58, Try.ntmps58
      go_wp2_with fail
      refine Hg.out.mono ?_
      rintro e w' ⟨rfl, rfl⟩
      go_wp2_with fail
      refine Hl.out.mono ?_
      rintro e w' ⟨rfl, n, rfl⟩
      have hlz := Hlz.out
      have Ht := Lib.hid (take1_calls _ B g ad c x (h.drewN n) hlt)
      rw [Hgt.out] at Ht
      go_wp2_with fail
      refine Ht.out.mono ?_
      rintro e w2 ⟨rfl, hr, hm2, hcell⟩
      go_wp2
      go_ret
      exact hr.post (((Mut.refl g w).drewN n).trans hm2) _
  · have hd : decide (x.err = 0) = false := decide_eq_false he
    rw [show ByteR x = (0, x) from if_neg he]
    go_enter Try.func58, Try.ntmps58
    go_wp2_with fail
    refine Hg.out.mono ?_
    rintro e w' ⟨rfl, rfl⟩
    go_wp2
    go_ret
    exact h.post (Mut.refl _ _) _
theorem Calls.quiet_of_drawn {P : Program} {f : FuncId} {args : Array Value} {w : World} {n : Nat} {v : Value} (h : Calls P f args (w.drewN n) fun e w' => e = .returned v ∧ Drawn (w.drewN n) w') :
    Calls P f args (w.drewN n) fun e w'' => e = .returned v ∧ ∃ m, w'' = w.drewN m := h.mono fun e w' ⟨h1, m, h2⟩ => ⟨h1, n + m, by rw [h2, World.drewN_drewN]⟩
set_option maxRecDepth 8000 in
set_option maxHeartbeats 4000000 in
theorem rdFlag_calls (w : World) (B g : Nat) (A : Option Addr) (c : Nat) (x : RdM) (h : RdAt w B g A c x) :
    Calls Try.prog 108 #[.pointer (some ⟨g, 0, none⟩)] w (RdPost w B g A c (FlagR x).2 (.bool (FlagR x).1)) := by
  have Hg := Lib.hid (good_calls w B g A c x h)
  have Hl := Lib.hid (fun n => Calls.quiet_of_drawn (left_calls (w.drewN n) B g A c x (h.drewN n)))
  by_cases he : x.err = 0
  · have hd : decide (x.err = 0) = true := decide_eq_true he
    by_cases hz : leftR x = 0
    · rw [show FlagR x = (false, failR x 6) by unfold FlagR; rw [if_pos he, if_pos (.inl hz)]]
      go_enter Try.func108, Try.ntmps108
      go_wp2_with fail
      refine Hg.out.mono ?_
      rintro e w' ⟨rfl, rfl⟩
      rw [hz] at Hl
      go_wp2_with fail
      go_quiet (exact Hl.out _)
      go_wp2_with fail
      refine (fail_calls _ B g A c x (h.drewN nq) 6).mono ?_
      rintro e w2 ⟨rfl, hr, hm2⟩
      go_wp2
      go_ret
      exact hr.post (((Mut.refl g w).drewN nq).trans hm2) _
    · have hlt : x.pos < x.bs.length := by unfold leftR at hz; omega
      obtain ⟨ad, rfl, hcell⟩ := h.row.u8_at x.pos hlt
      have Hlz := Lib.hid (show ((leftR x : Int) == 0) = false by rw [beq_eq_false_iff_ne]; omega)
      have hgd : x.bs.getD x.pos 0 = x.bs[x.pos] := by simp [hlt]
      have hbt := (x.bs[x.pos]).toNat_lt
      obtain ⟨h0, h1, h2⟩ := h.cells
      have hl := h.len
      by_cases h1b : 1 < (x.bs[x.pos]).toNat
      · rw [show FlagR x = (false, failR x 6) by unfold FlagR; rw [if_pos he, hgd, if_pos (.inr h1b)]]
        go_enter Try.func108, Try.ntmps108
        go_wp2_with fail
        refine Hg.out.mono ?_
        rintro e w' ⟨rfl, rfl⟩
        have hlz := Hlz.out
        go_wp2_with fail
        go_quiet (exact Hl.out _)
        go_wp2_with fail
        refine (fail_calls _ B g _ c x (h.drewN nq) 6).mono ?_
        rintro e w2 ⟨rfl, hr, hm2⟩
        go_wp2
        go_ret
        exact hr.post (((Mut.refl g w).drewN nq).trans hm2) _
      · rw [show FlagR x = (decide ((x.bs[x.pos]).toNat = 1), ⟨x.bs, x.pos + 1, x.err⟩) by unfold FlagR; rw [if_pos he, hgd, if_neg (by omega)]]
        go_enter Try.func108, Try.ntmps108
        go_wp2_with fail
        refine Hg.out.mono ?_
        rintro e w' ⟨rfl, rfl⟩
        have hlz := Hlz.out
        have hb1 : decide (1 < ((x.bs[x.pos]).toNat : Int)) = false := decide_eq_false (by omega)
        go_wp2_with fail
        go_quiet (exact Hl.out _)
        have Ht := Lib.hid (take1_calls _ B g ad c x (h.drewN nq) hlt)
        rw [hgd] at Ht
        go_wp2_with fail
        refine Ht.out.mono ?_
        rintro e w2 ⟨rfl, hr, hm2, hcell⟩
        have hr4 := Lib.hid (show ∀ b : Bool, b = decide ((x.bs[x.pos]).toNat = 1) → RdPost w B g (some ad) c ⟨x.bs, x.pos + 1, x.err⟩ (.bool (decide ((x.bs[x.pos]).toNat = 1))) (.returned (.bool b)) w2 by
          rintro b rfl
          exact hr.post (((Mut.refl g w).drewN nq).trans hm2) _)
        go_wp2
        go_ret
        exact hr4.out _ (by rw [Bool.eq_iff_iff, beq_iff_eq, decide_eq_true_eq]; omega)
  · have hd : decide (x.err = 0) = false := decide_eq_false he
    rw [show FlagR x = (false, x) from if_neg he]
    go_enter Try.func108, Try.ntmps108
    go_wp2_with fail
    refine Hg.out.mono ?_
    rintro e w' ⟨rfl, rfl⟩
    go_wp2
    go_ret
    exact h.post (Mut.refl _ _) _
theorem RdAt.back {w : World} {B g : Nat} {A : Option Addr} {c : Nat} {y : RdM} (h : RdAt w B g A c y) (p : Nat) (hp : p ≤ y.bs.length) : RdAt (w.setCell ⟨g, 1, none⟩ (.int .i64 p)) B g A c ⟨y.bs, p, y.err⟩ ∧ Mut g w (w.setCell ⟨g, 1, none⟩ (.int .i64 p)) := by
  have hst := heap_set_eq2 w g 1 _ _ (0, 0) (.int .i64 p) h.obj
  have hm := (Mut.refl g w).set 1 (.int .i64 p)
  exact ⟨h.upd hm p y.err (by rw [hst]; simp) hp, hm⟩
theorem backR_bs (x y : RdM) : backR x y = ⟨y.bs, x.pos, y.err⟩ := rfl
theorem failR_bs (x : RdM) (e : Int) : (failR x e).bs = x.bs := by unfold failR; split <;> rfl
set_option maxRecDepth 8000 in
set_option maxHeartbeats 8000000 in
theorem rdText_calls (w : World) (B g : Nat) (A : Option Addr) (c : Nat) (x : RdM) (h : RdAt w B g A c x) (most : Int) (hmost : most ≤ 9223372036854775807) :
    Calls Try.prog 109 #[.pointer (some ⟨g, 0, none⟩), .int .i64 most] w (RdPost w B g A c (TextR x most).2 (.string (TextR x most).1)) := by
  have Hg := Lib.hid (good_calls w B g A c x h)
  have Hu := Lib.hid (uint_calls w B g A c x h)
  by_cases he : x.err = 0
  · have hd : decide (x.err = 0) = true := decide_eq_true he
    have hnlt := uintR_lt x
    have hyb := uintR_bs x
    obtain ⟨h0, h1, h2⟩ := h.cells
    have hxp := h.pos
    have hT : TextR x most = (if (uintR x).2.err = 0 then
      (if (max most 0).toNat < (uintR x).1 then (⟨#[]⟩, backR x (failR (uintR x).2 7))
       else if leftR (uintR x).2 < (uintR x).1 then (⟨#[]⟩, backR x (failR (uintR x).2 6))
       else (⟨(((uintR x).2.bs.drop (uintR x).2.pos).take (uintR x).1).toArray⟩, ⟨(uintR x).2.bs, (uintR x).2.pos + (uintR x).1, (uintR x).2.err⟩))
     else (⟨#[]⟩, backR x (uintR x).2)) := if_pos he
    generalize (uintR x).1 = n at *
    generalize (uintR x).2 = y at *
    have hmx : IntKind.u64.wrap (max most 0) = max most 0 := by rw [wrap_u64]; omega
    by_cases hye : y.err = 0
    · have hyd : (y.err == 0) = true := by rw [beq_iff_eq]; exact hye
      have hyl : y.bs.length = x.bs.length := by rw [hyb]
      by_cases h7 : (max most 0).toNat < n
      · rw [hT, if_pos hye, if_pos h7]
        go_enter Try.func109, Try.ntmps109
        go_wp2_with fail
        refine Hg.out.mono ?_
        rintro e w' ⟨rfl, rfl⟩
        go_wp2_with fail
        refine Hu.out.mono ?_
        rintro e w2 ⟨rfl, hr, hm2⟩
        obtain ⟨k0, k1, k2⟩ := hr.cells
        go_wp2_with fail
        all_goals refine (fail_calls _ B g A c y hr 7).mono ?_
        all_goals rintro e w3 ⟨rfl, hr3, hm3⟩
        all_goals obtain ⟨hb, hmb⟩ := hr3.back x.pos (by rw [failR_bs, hyl]; exact hxp)
        all_goals obtain ⟨l0, l1, l2⟩ := hr3.cells
        all_goals obtain ⟨m1, m2⟩ := hr3.frozen
        all_goals go_wp2
        all_goals go_ret
        all_goals exact hb.post ((hm2.trans hm3).trans hmb) _
      · have hleft : leftR y = y.bs.length - y.pos := rfl
        have Hl := Lib.hid (fun W (hW : RdAt W B g A c y) => left_calls W B g A c y hW)
        have hl63 := h.len
        by_cases h6 : leftR y < n
        · rw [hT, if_pos hye, if_neg h7, if_pos h6]
          generalize leftR y = lf at *
          have hg6 : decide ((lf : Int) < (n : Int)) = true := decide_eq_true (by omega)
          have hg6' : decide (lf < n) = true := decide_eq_true (by omega)
          have hlf : lf ≤ 1099511627776 := by omega
          clear hleft hT h
          by_cases hm0 : 0 < most
          · have hg7 : decide (most < (n : Int)) = false := decide_eq_false (by omega)
            go_enter Try.func109, Try.ntmps109
            go_wp2_with fail
            refine Hg.out.mono ?_
            rintro e w' ⟨rfl, rfl⟩
            go_wp2_with fail
            refine Hu.out.mono ?_
            rintro e w2 ⟨rfl, hr, hm2⟩
            obtain ⟨k0, k1, k2⟩ := hr.cells
            have Hl2 := Lib.hid (Hl.out _ hr)
            go_wp2_with fail
            all_goals refine Hl2.out.mono ?_
            all_goals rintro e w4 ⟨rfl, q, rfl⟩
            all_goals have hr4 := hr.drewN q
            all_goals have hm4 := hm2.drewN q
            all_goals go_wp2_with fail
            all_goals refine (fail_calls _ B g A c y hr4 6).mono ?_
            all_goals rintro e w3 ⟨rfl, hr3, hm3⟩
            all_goals obtain ⟨hb, hmb⟩ := hr3.back x.pos (by rw [failR_bs, hyl]; exact hxp)
            all_goals obtain ⟨l0, l1, l2⟩ := hr3.cells
            all_goals obtain ⟨m1, m2⟩ := hr3.frozen
            all_goals go_wp2
            all_goals go_ret
            all_goals exact hb.post ((hm4.trans hm3).trans hmb) _
          · omega
        · have hyp : y.pos + n ≤ y.bs.length ∧ y.pos ≤ y.bs.length ∨ n = 0 := by omega
          rw [hT, if_pos hye, if_neg h7, if_neg h6]
          generalize hlf : leftR y = lf at *
          have hg6 : decide ((lf : Int) < (n : Int)) = false := decide_eq_false (by omega)
          have hg6' : decide (lf < n) = false := decide_eq_false (by omega)
          have hlf' : lf ≤ 1099511627776 := by omega
          clear hleft hT h hyb
          by_cases hm0 : 0 < most
          · have hg7 : decide (most < (n : Int)) = false := decide_eq_false (by omega)
            go_enter Try.func109, Try.ntmps109
            go_wp2_with fail
            refine Hg.out.mono ?_
            rintro e w' ⟨rfl, rfl⟩
            go_wp2_with fail
            refine Hu.out.mono ?_
            rintro e w2 ⟨rfl, hr, hm2⟩
            obtain ⟨k0, k1, k2⟩ := hr.cells
            have hyp2 := hr.pos
            have hlf2 : y.pos + n ≤ y.bs.length := by unfold leftR at hlf; omega
            clear hlf
            have Hl2 := Lib.hid (Hl.out _ hr)
            go_wp2_with fail
            all_goals refine Hl2.out.mono ?_
            all_goals rintro e w4 ⟨rfl, q, rfl⟩
            all_goals have hr4 := hr.drewN q
            all_goals have hm4 := hm2.drewN q
            all_goals go_wp2_with fail
            all_goals refine (take_calls _ B g A c y hr4 n (by omega)).mono ?_
            all_goals rintro e w5 ⟨rfl, hr5, hm5⟩
            all_goals have hrow := (hr5.row.cut c y.pos (y.pos + n) 1 rfl (by omega) (by omega) hr5.cap)
            all_goals rw [List.drop_take, Nat.add_sub_cancel_left] at hrow
            all_goals have hcv := conv_str (hrow) 31 9 5 (c - y.pos) Try.underlying31 Try.underlying5 Try.underlying9
            all_goals rw [show ((y.bs.drop y.pos).take n).length = n by rw [List.length_take, List.length_drop]; omega] at hcv
            all_goals go_wp2
            all_goals go_ret
            all_goals exact hr5.post (hm4.trans hm5) _
          · have hn0 : n = 0 := by omega
            have hg7 : decide (0 < n) = false := decide_eq_false (by omega)
            have hg7' : decide (0 < (n : Int)) = false := decide_eq_false (by omega)
            go_enter Try.func109, Try.ntmps109
            go_wp2_with fail
            refine Hg.out.mono ?_
            rintro e w' ⟨rfl, rfl⟩
            go_wp2_with fail
            refine Hu.out.mono ?_
            rintro e w2 ⟨rfl, hr, hm2⟩
            obtain ⟨k0, k1, k2⟩ := hr.cells
            have hyp2 := hr.pos
            have hlf2 : y.pos + n ≤ y.bs.length := by unfold leftR at hlf; omega
            clear hlf hn0
            have Hl2 := Lib.hid (Hl.out _ hr)
            go_wp2_with fail
            all_goals refine Hl2.out.mono ?_
            all_goals rintro e w4 ⟨rfl, q, rfl⟩
            all_goals have hr4 := hr.drewN q
            all_goals have hm4 := hm2.drewN q
            all_goals go_wp2_with fail
            all_goals refine (take_calls _ B g A c y hr4 n (by omega)).mono ?_
            all_goals rintro e w5 ⟨rfl, hr5, hm5⟩
            all_goals have hrow := (hr5.row.cut c y.pos (y.pos + n) 1 rfl (by omega) (by omega) hr5.cap)
            all_goals rw [List.drop_take, Nat.add_sub_cancel_left] at hrow
            all_goals have hcv := conv_str (hrow) 31 9 5 (c - y.pos) Try.underlying31 Try.underlying5 Try.underlying9
            all_goals rw [show ((y.bs.drop y.pos).take n).length = n by rw [List.length_take, List.length_drop]; omega] at hcv
            all_goals go_wp2
            all_goals go_ret
            all_goals exact hr5.post (hm4.trans hm5) _
    · have hyd : (y.err == 0) = false := by rw [beq_eq_false_iff_ne]; exact hye
      have hyl : y.bs.length = x.bs.length := by rw [hyb]
      rw [hT, if_neg hye]
      go_enter Try.func109, Try.ntmps109
      go_wp2_with fail
      refine Hg.out.mono ?_
      rintro e w' ⟨rfl, rfl⟩
      go_wp2_with fail
      refine Hu.out.mono ?_
      rintro e w2 ⟨rfl, hr, hm2⟩
      obtain ⟨k0, k1, k2⟩ := hr.cells
      obtain ⟨m1, m2⟩ := hr.frozen
      obtain ⟨hb, hmb⟩ := hr.back x.pos (by rw [hyl]; exact hxp)
      go_wp2
      go_ret
      exact hb.post (hm2.trans hmb) _
  · have hd : decide (x.err = 0) = false := decide_eq_false he
    rw [show TextR x most = (⟨#[]⟩, x) from if_neg he]
    go_enter Try.func109, Try.ntmps109
    go_wp2_with fail
    refine Hg.out.mono ?_
    rintro e w' ⟨rfl, rfl⟩
    go_wp2
    go_ret
    exact h.post (Mut.refl _ _) _
end Go.Proofs.Ytaomhedjamnloaa