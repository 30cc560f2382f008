/- The document's reader: Within, many, Text. -/
import Derived.Test.YtjmeoaookpnknaaRRd3
set_option linter.unusedVariables false
set_option linter.unusedSimpArgs false
namespace Go.Proofs.Ytjmeoaookpnknaa
open Go Go.RowKit

theorem uintR_bad {x : RdM} (h : (uintR x).2.err ≠ 0) : (uintR x).1 = 0 ∨ x.err ≠ 0 := by
  unfold uintR at h ⊢
  cases hg : getU 0 0 (x.bs.drop x.pos) with
  | none => exact .inl rfl
  | some p => rw [hg] at h; exact .inr h
theorem UintR_pos {x : RdM} (h : (UintR x).2.err ≠ 0) : (UintR x).2.pos = x.pos := by
  unfold UintR at h ⊢
  split
  · rename_i he
    rw [if_pos he] at h
    unfold uintR at h ⊢
    cases hg : getU 0 0 (x.bs.drop x.pos) with
    | none => simp only; unfold failR; split <;> rfl
    | some p => rw [hg] at h; exact absurd he h
  · rfl
theorem backR_same {x y : RdM} (h : y.pos = x.pos) : backR x y = y := by
  cases y
  simp only at h
  unfold backR
  simp only [h]
theorem UintR_bad {x : RdM} (h : x.err ≠ 0) : UintR x = (0, x) := if_neg h
/-- Within, as the document says it. -/
theorem WithinR_eq (x : RdM) (lo hi : Int) : WithinR x lo hi =
    (if (IntR x).2.err = 0 then (if (IntR x).1 < lo ∨ hi < (IntR x).1 then (0, backR x (failR (IntR x).2 8)) else IntR x) else (0, backR x (IntR x).2)) := by
  unfold WithinR
  by_cases he : x.err = 0
  · rw [if_pos he]
    by_cases hy : (IntR x).2.err = 0
    · rw [if_pos hy, if_pos hy, show failR (IntR x).2 8 = { (IntR x).2 with err := 8 } from if_pos hy]
      rfl
    · rw [if_neg hy, if_neg hy, show backR x (IntR x).2 = (IntR x).2 from backR_same (UintR_pos hy)]
  · have h2 : (IntR x).2 = x := by show (UintR x).2 = x; rw [UintR_bad he]
    rw [if_neg he, h2, if_neg he, backR_same rfl]
set_option maxRecDepth 8000 in
set_option maxHeartbeats 4000000 in
theorem qWithin_calls (w : World) (B g : Nat) (A : Option Addr) (c : Nat) (x : RdM) (h : QAt w B g A c x) (lo hi : Int) :
    Calls Try.prog 56 #[.pointer (some ⟨g, 0, none⟩), .int .i64 lo, .int .i64 hi] w (QPost w B g A c (WithinR x lo hi).2 (.int .i64 (WithinR x lo hi).1)) := by
  obtain ⟨h0, h1, h2⟩ := h.cells
  have hp := h.pos
  have Hi := Lib.hid (qInt_calls w B g A c x h)
  have hbs : (IntR x).2.bs = x.bs := UintR_bs x
  rw [WithinR_eq]
  have hix : IntR x = ((IntR x).1, (IntR x).2) := rfl
  generalize (IntR x).2 = y at *
  generalize (IntR x).1 = v at *
  rw [hix]
  clear hix
  have Hback := Lib.hid (fun W (z : RdM) (hz : QAt W B g A c z) (hb : z.bs = x.bs) => hz.back x.pos (by rw [hb]; exact hp))
  have hbs6 : (failR y 8).bs = x.bs := by rw [failR_bs]; exact hbs
  have Hbs := Lib.hid (And.intro hbs hbs6)
  have hbad8 : ((failR y 8).err == 0) = false := by rw [beq_eq_false_iff_ne]; exact failR_err y (by decide)
  clear hbs hbs6 h
  by_cases hy : y.err = 0
  · rw [if_pos hy]
    by_cases hr : v < lo ∨ hi < v
    · rw [if_pos hr]
      generalize hz8 : failR y 8 = z at *
      have Hz8 := Lib.hid hz8
      clear hz8
      go_enter Try.func56, Try.ntmps56
      go_wp2_with fail
      refine Hi.out.mono ?_
      rintro e w2 ⟨rfl, hr2, hm2⟩
      obtain ⟨k0, k1, k2⟩ := hr2.cells
      rw [hy] at k2
      have Hf := Lib.hid (Rfail_calls w2 B g A c y hr2 8)
      rw [Hz8.out] at Hf
      go_upto_region 3 with fail
      go_cut [29] (fun v29 wx => v29 = .bool true ∧ w2 = wx)
      case first =>
        by_cases hlo : v < lo
        · go_wp2
          go_meet
          exact ⟨rfl, rfl⟩
        · have hhi : hi < v := hr.resolve_left hlo
          go_wp2
          go_meet
          exact ⟨rfl, rfl⟩
      case rest =>
        obtain ⟨rfl, rfl⟩ := hcut
        go_wp2_with fail
        refine Hf.out.mono ?_
        rintro e w3 ⟨rfl, hr3, hm3⟩
        obtain ⟨l0, l1, l2⟩ := hr3.cells
        obtain ⟨f1, f2⟩ := hr3.frozen
        have Hb := Lib.hid (Hback.out _ _ hr3 Hbs.out.2)
        have Hm := Lib.hid (hm2.trans hm3)
        clear hr3 hr2 hm2 hm3
        go_wp2
        go_ret
        exact ⟨rfl, Hb.out.1, Hm.out.trans Hb.out.2⟩
    · rw [if_neg hr]
      have hnlo : ¬ v < lo := fun h => hr (.inl h)
      have hnhi : ¬ hi < v := fun h => hr (.inr h)
      clear hr
      go_enter Try.func56, Try.ntmps56
      go_wp2_with fail
      refine Hi.out.mono ?_
      rintro e w2 ⟨rfl, hr2, hm2⟩
      obtain ⟨k0, k1, k2⟩ := hr2.cells
      rw [hy] at k2
      go_wp2
      go_ret
      exact ⟨rfl, hr2, hm2⟩
  · rw [if_neg hy]
    have hyb : (y.err == 0) = false := by rw [beq_eq_false_iff_ne]; exact hy
    go_enter Try.func56, Try.ntmps56
    go_wp2_with fail
    refine Hi.out.mono ?_
    rintro e w2 ⟨rfl, hr2, hm2⟩
    obtain ⟨k0, k1, k2⟩ := hr2.cells
    obtain ⟨f1, f2⟩ := hr2.frozen
    have Hb := Lib.hid (Hback.out _ _ hr2 Hbs.out.1)
    go_wp2
    go_ret
    exact ⟨rfl, Hb.out.1, hm2.trans Hb.out.2⟩
/-- Too many, too long. -/
def longB (most : Int) (n : Nat) : Bool := decide ((max most 0).toNat < n)
/-- Behind a name: the walk parts on every 'if' of its goal. -/
def selR (b : Bool) (y z : RdM) : RdM := if b = true then y else z
def ManyR (x : RdM) (most : Int) : RdM := selR (decide ((UintR x).2.err = 0) && longB most (UintR x).1) (failR (UintR x).2 7) (UintR x).2
set_option maxRecDepth 8000 in
set_option maxHeartbeats 4000000 in
theorem qmany_calls (w : World) (B g : Nat) (A : Option Addr) (c : Nat) (x : RdM) (h : QAt w B g A c x) (most : Int) (hmost : -9223372036854775808 ≤ most ∧ most ≤ 9223372036854775807) :
    Calls Try.prog 64 #[.pointer (some ⟨g, 0, none⟩), .int .i64 most] w (QPost w B g A c (ManyR x most) (.int .u64 (UintR x).1)) := by
  have Hu := Lib.hid (qUint_calls w B g A c x h)
  have hlt := UintR_lt x
  unfold ManyR
  generalize (UintR x).2 = y at *
  generalize (UintR x).1 = n at *
  obtain ⟨b, hb⟩ : ∃ b, b = (decide (y.err = 0) && longB most n) := ⟨_, rfl⟩
  rw [← hb]
  have Hbb := Lib.hid hb
  clear hb h
  go_enter Try.func64, Try.ntmps64
  go_wp2_with fail
  refine Hu.out.mono ?_
  rintro e w2 ⟨rfl, hr2, hm2⟩
  obtain ⟨k0, k1, k2⟩ := hr2.cells
  have Hf := Lib.hid (Rfail_calls w2 B g A c y hr2 7)
  go_upto_region 2 with fail
  go_cut [30] (fun v wx => v = .bool b ∧ w2 = wx)
  case first =>
    by_cases hy : y.err = 0
    · rw [hy] at k2
      by_cases hm : most < 0
      · by_cases hn : 0 < n
        · have hni : (0 : Int) < (n : Int) := by omega
          have Hv : b = true := by rw [Hbb.out, hy]; simp [longB]; omega
          go_wp2
          go_meet
          exact ⟨by rw [Hv], rfl⟩
        · have hni : ¬ (0 : Int) < (n : Int) := by omega
          have hm2 : ¬ (0 : Int) ≤ most := by omega
          have Hv : b = false := by rw [Hbb.out, hy]; simp [longB]; omega
          go_wp2
          go_meet
          exact ⟨by rw [Hv], rfl⟩
      · have hm2 : (0 : Int) ≤ most := by omega
        have hw : IntKind.u64.wrap most = most := by rw [wrap_u64]; omega
        by_cases hn : most < (n : Int)
        · have Hv : b = true := by rw [Hbb.out, hy]; simp [longB]; omega
          go_wp2
          go_meet
          exact ⟨by rw [Hv], rfl⟩
        · have Hv : b = false := by rw [Hbb.out, hy]; simp [longB]; omega
          go_wp2
          go_meet
          exact ⟨by rw [Hv], rfl⟩
    · have hyb : (y.err == 0) = false := by rw [beq_eq_false_iff_ne]; exact hy
      have Hv : b = false := by rw [Hbb.out, decide_eq_false hy]; rfl
      go_wp2
      go_meet
      exact ⟨by rw [Hv], rfl⟩
  case rest =>
    obtain ⟨rfl, rfl⟩ := hcut
    clear Hbb
    cases b with
    | true =>
      go_wp2_with fail
      refine Hf.out.mono ?_
      rintro e w3 ⟨rfl, hr3, hm3⟩
      go_wp2
      go_ret
      exact ⟨rfl, hr3, hm2.trans hm3⟩
    | false =>
      go_wp2
      go_ret
      exact ⟨rfl, hr2, hm2⟩
end Go.Proofs.Ytjmeoaookpnknaa
