/- The document's reader: Text. -/
import Derived.Test.YtaomhedjamnloaaRRd4
set_option linter.unusedVariables false
set_option linter.unusedSimpArgs false
namespace Go.Proofs.Ytaomhedjamnloaa
open Go Go.RowKit

/-- Text, as the document says it. -/
theorem TextR_bad {x : RdM} {most : Int} (hy : (UintR x).2.err ≠ 0) : TextR x most = (⟨#[]⟩, backR x (UintR x).2) := by
  unfold TextR
  by_cases he : x.err = 0
  · rw [if_pos he, show uintR x = UintR x from (if_pos he).symm, if_neg hy]
  · rw [if_neg he, UintR_bad he, backR_same rfl]
theorem UintR_ok {x : RdM} (hy : (UintR x).2.err = 0) : x.err = 0 := by
  by_cases he : x.err = 0
  · exact he
  · rw [UintR_bad he] at hy; exact hy
theorem TextR_long {x : RdM} {most : Int} (hy : (UintR x).2.err = 0) (hl : longB most (UintR x).1 = true) : TextR x most = (⟨#[]⟩, backR x (failR (UintR x).2 7)) := by
  have he := UintR_ok hy
  unfold TextR
  rw [if_pos he, show uintR x = UintR x from (if_pos he).symm, if_pos hy, if_pos (of_decide_eq_true hl)]
theorem TextR_far {x : RdM} {most : Int} (hy : (UintR x).2.err = 0) (hl : longB most (UintR x).1 = false) (hf : leftR (UintR x).2 < (UintR x).1) : TextR x most = (⟨#[]⟩, backR x (failR (UintR x).2 6)) := by
  have he := UintR_ok hy
  unfold TextR
  rw [if_pos he, show uintR x = UintR x from (if_pos he).symm, if_pos hy, if_neg (of_decide_eq_false hl), if_pos hf]
theorem TextR_good {x : RdM} {most : Int} (hy : (UintR x).2.err = 0) (hl : longB most (UintR x).1 = false) (hf : ¬ leftR (UintR x).2 < (UintR x).1) : TextR x most = (⟨(bytesL (UintR x).2 ((UintR x).1 : Nat)).toArray⟩, BytesR (UintR x).2 ((UintR x).1 : Nat)) := by
  have he := UintR_ok hy
  have h0 : ¬ (((UintR x).1 : Nat) : Int) < 0 := by omega
  have h1 : ¬ ((leftR (UintR x).2 : Nat) : Int) < (((UintR x).1 : Nat) : Int) := by omega
  unfold TextR
  rw [if_pos he, show uintR x = UintR x from (if_pos he).symm, if_pos hy, if_neg (of_decide_eq_false hl), if_neg hf]
  simp only [bytesL, BytesR, if_pos hy, if_neg h0, if_neg h1, Int.toNat_natCast]
set_option maxRecDepth 8000 in
set_option maxHeartbeats 8000000 in
theorem qText_calls (w : World) (B g : Nat) (A : Option Addr) (c : Nat) (x : RdM) (h : QAt w B g A c x) (most : Int) (hmost : -9223372036854775808 ≤ most ∧ most ≤ 9223372036854775807) :
    Calls Try.prog 114 #[.pointer (some ⟨g, 0, none⟩), .int .i64 most] w (QPost w B g A c (TextR x most).2 (.string (TextR x most).1)) := by
  obtain ⟨h0, h1, h2⟩ := h.cells
  have hp := h.pos
  have Hu := Lib.hid (qUint_calls w B g A c x h)
  have hlt := UintR_lt x
  have Hbad := Lib.hid (fun hy => TextR_bad (x := x) (most := most) hy)
  have Hlong := Lib.hid (fun hy hl => TextR_long (x := x) (most := most) hy hl)
  have Hfar := Lib.hid (fun hy hl hf => TextR_far (x := x) (most := most) hy hl hf)
  have Hgood := Lib.hid (fun hy hl hf => TextR_good (x := x) (most := most) hy hl hf)
  have hbs : (UintR x).2.bs = x.bs := UintR_bs x
  generalize TextR x most = T at *
  generalize (UintR x).2 = y at *
  generalize (UintR x).1 = n at *
  obtain ⟨b, hb⟩ : ∃ b, b = (decide (y.err = 0) && longB most n) := ⟨_, rfl⟩
  have Hbb := Lib.hid hb
  have Hback := Lib.hid (fun W (z : RdM) (hz : QAt W B g A c z) (hb : z.bs = x.bs) => hz.back x.pos (by rw [hb]; exact hp))
  have Hbs := Lib.hid hbs
  clear hb h hbs
  go_enter Try.func114, Try.ntmps114
  go_wp2_with fail
  refine Hu.out.mono ?_
  rintro e w2 ⟨rfl, hr2, hm2⟩
  obtain ⟨k0, k1, k2⟩ := hr2.cells
  have hyp := hr2.pos
  have hyl := hr2.len
  have Hr2 := Lib.hid hr2
  clear hr2
  go_upto_region 3 with fail
  go_cut [35] (fun v wx => v = .bool b ∧ w2 = wx)
  case first =>
    by_cases hy : y.err = 0
    · rw [hy] at k2
      by_cases hm : most < 0
      · by_cases hn : 0 < n
        · have hni : (0 : Int) < (n : Int) := by omega
          have Hv : b = true := by rw [Hbb.out, hy]; simp [longB]; omega
          go_wp2
          go_meet
          exact ⟨by rw [Hv], rfl⟩
        · have hni : ¬ (0 : Int) < (n : Int) := by omega
          have hm2 : ¬ (0 : Int) ≤ most := by omega
          have Hv : b = false := by rw [Hbb.out, hy]; simp [longB]; omega
          go_wp2
          go_meet
          exact ⟨by rw [Hv], rfl⟩
      · have hm2 : (0 : Int) ≤ most := by omega
        have hw : IntKind.u64.wrap most = most := by rw [wrap_u64]; omega
        by_cases hn : most < (n : Int)
        · have Hv : b = true := by rw [Hbb.out, hy]; simp [longB]; omega
          go_wp2
          go_meet
          exact ⟨by rw [Hv], rfl⟩
        · have Hv : b = false := by rw [Hbb.out, hy]; simp [longB]; omega
          go_wp2
          go_meet
          exact ⟨by rw [Hv], rfl⟩
    · have hyb : (y.err == 0) = false := by rw [beq_eq_false_iff_ne]; exact hy
      have Hv : b = false := by rw [Hbb.out, decide_eq_false hy]; rfl
      go_wp2
      go_meet
      exact ⟨by rw [Hv], rfl⟩
  case rest =>
    obtain ⟨rfl, rfl⟩ := hcut
    cases b with
    | true =>
      have hbt := Hbb.out.symm
      rw [Bool.and_eq_true] at hbt
      have hT := Hlong.out (of_decide_eq_true hbt.1) hbt.2
      have Hf := Lib.hid (Rfail_calls w2 B g A c y Hr2.out 7)
      have hbs7 : (failR y 7).bs = x.bs := by rw [failR_bs, Hbs.out]
      have hbad : ((failR y 7).err == 0) = false := by rw [beq_eq_false_iff_ne]; exact failR_err y (by decide)
      subst hT
      generalize failR y 7 = z at *
      have Hz := Lib.hid hbs7
      clear hbt hbs7 Hbb Hbad Hlong Hfar Hgood
      go_wp2_with fail
      refine Hf.out.mono ?_
      rintro e w3 ⟨rfl, hr3, hm3⟩
      obtain ⟨l0, l1, l2⟩ := hr3.cells
      obtain ⟨f1, f2⟩ := hr3.frozen
      have Hb := Lib.hid (Hback.out _ _ hr3 Hz.out)
      have Hm := Lib.hid (hm2.trans hm3)
      clear hr3 hm2 hm3 k0 k1 k2 h0 h1 h2
      go_wp2_with fail
      go_quiet (fail)
      go_simp
      go_wp2
      go_ret
      exact ⟨rfl, Hb.out.1.drewN nq, (Hm.out.trans Hb.out.2).drewN nq⟩
    | false =>
      by_cases hy : y.err = 0
      · have hlb : longB most n = false := by
          have := Hbb.out
          rw [decide_eq_true hy, Bool.true_and] at this
          exact this.symm
        have hw : IntKind.u64.wrap ((y.bs.length : Int) - (y.pos : Int)) = (y.bs.length : Int) - (y.pos : Int) := by rw [wrap_u64]; omega
        have hw2 : IntKind.i64.wrap ((y.bs.length : Int) - (y.pos : Int)) = (y.bs.length : Int) - (y.pos : Int) := IntWalk.i64_in _ (by omega)
        rw [hy] at k2
        by_cases hf : leftR y < n
        · have hfi : (y.bs.length : Int) - (y.pos : Int) < (n : Int) := by unfold leftR at hf; omega
          have hT := Hfar.out hy hlb hf
          have Hf := Lib.hid (fun q => Rfail_calls _ B g A c y (Hr2.out.drewN q) 6)
          have hbs7 : (failR y 6).bs = x.bs := by rw [failR_bs, Hbs.out]
          have hbad : ((failR y 6).err == 0) = false := by rw [beq_eq_false_iff_ne]; exact failR_err y (by decide)
          subst hT
          generalize failR y 6 = z at *
          have Hz := Lib.hid hbs7
          clear hlb hbs7 Hbb hf hy Hbad Hlong Hfar Hgood
          go_wp2_with fail
          go_quiet (fail)
          go_simp
          go_wp2_with fail
          refine (Hf.out nq).mono ?_
          rintro e w3 ⟨rfl, hr3, hm3⟩
          obtain ⟨l0, l1, l2⟩ := hr3.cells
          obtain ⟨f1, f2⟩ := hr3.frozen
          have Hb := Lib.hid (Hback.out _ _ hr3 Hz.out)
          have Hm := Lib.hid ((hm2.drewN nq).trans hm3)
          clear hr3 hm2 hm3 k0 k1 k2 h0 h1 h2
          go_wp2
          go_ret
          exact ⟨rfl, Hb.out.1, Hm.out.trans Hb.out.2⟩
        · have hfi : ¬ (y.bs.length : Int) - (y.pos : Int) < (n : Int) := by unfold leftR at hf; omega
          have hT := Hgood.out hy hlb hf
          have hn63 : (n : Int) ≤ 9223372036854775807 := by omega
          have Hby := Lib.hid (fun q => qBytes_calls (w2.drewN q) B g A c y (Hr2.out.drewN q) (n : Int) ⟨by omega, hn63⟩)
          subst hT
          generalize bytesL y n = t at *
          generalize BytesR y n = z at *
          clear hlb Hbb hf hy Hbad Hlong Hfar Hgood
          go_wp2_with fail
          go_quiet (fail)
          go_simp
          go_wp2_with fail
          refine (Hby.out nq).mono ?_
          rintro e w3 ⟨v, rfl, ho3, hr3, hm3⟩
          obtain ⟨A3, c3, e3, _, _, hrow⟩ := ho3.sl
          subst e3
          have hcv := conv_str (hrow) 31 9 5 c3 Try.underlying31 Try.underlying5 Try.underlying9
          clear ho3 hrow
          go_wp2
          go_ret
          exact ⟨rfl, hr3, (hm2.drewN nq).trans hm3⟩
      · have hyb : (y.err == 0) = false := by rw [beq_eq_false_iff_ne]; exact hy
        have hT := Hbad.out hy
        subst hT
        clear Hbad Hlong Hfar Hgood
        obtain ⟨f1, f2⟩ := Hr2.out.frozen
        have Hb := Lib.hid (Hback.out _ _ Hr2.out Hbs.out)
        clear hy Hbb h0 h1 h2
        go_wp2_with fail
        go_quiet (fail)
        go_simp
        go_wp2
        go_ret
        exact ⟨rfl, Hb.out.1.drewN nq, (hm2.trans Hb.out.2).drewN nq⟩
end Go.Proofs.Ytaomhedjamnloaa
