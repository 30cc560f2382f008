/- The document's reader: Flag, Rest, Within. -/
import Derived.Test.YtaomhedjamnloaaRRd2
set_option linter.unusedVariables false
set_option linter.unusedSimpArgs false
namespace Go.Proofs.Ytaomhedjamnloaa
open Go Go.RowKit

theorem ByteR_bad {x : RdM} (he : x.err ≠ 0) : ByteR x = (0, x) := if_neg he
set_option maxRecDepth 8000 in
set_option maxHeartbeats 4000000 in
theorem qFlag_calls (w : World) (B g : Nat) (A : Option Addr) (c : Nat) (x : RdM) (h : QAt w B g A c x) :
    Calls Try.prog 113 #[.pointer (some ⟨g, 0, none⟩)] w (QPost w B g A c (FlagR x).2 (.bool (FlagR x).1)) := by
  obtain ⟨h0, h1, h2⟩ := h.cells
  have hp := h.pos
  have hl := h.len
  by_cases he : x.err = 0
  · have hF : ∀ q, Calls Try.prog 128 #[.pointer (some ⟨g, 0, none⟩), .int .i64 6] (w.drewN q) (QPost (w.drewN q) B g A c (failR x 6) (.tuple #[])) := fun q => Rfail_calls _ B g A c x (h.drewN q) 6
    have hY : ∀ W, QAt W B g A c (failR x 6) → Calls Try.prog 63 #[.pointer (some ⟨g, 0, none⟩)] W (QPost W B g A c (failR x 6) (.int .i64 0)) := fun W hW => by
      have := qByte_calls W B g A c _ hW
      rw [ByteR_bad (failR_err x (by decide))] at this
      exact this
    have HF := Lib.hid hF
    have HY := Lib.hid hY
    clear hF hY
    by_cases hz : leftR x = 0
    · have hge : (x.bs.length : Int) ≤ (x.pos : Int) := by unfold leftR at hz; omega
      have hgen : x.bs.length ≤ x.pos := by omega
      rw [show FlagR x = (false, failR x 6) by unfold FlagR; rw [if_pos he, if_pos (.inl hz)]]
      rw [he] at h2
      generalize failR x 6 = y at *
      clear h he hz
      go_enter Try.func113, Try.ntmps113
      go_wp2_with fail
      go_quiet (fail)
      go_simp
      go_wp2_with fail
      refine (HF.out nq).mono ?_
      rintro e w2 ⟨rfl, hr2, hm2⟩
      go_wp2_with fail
      refine (HY.out _ hr2).mono ?_
      rintro e w3 ⟨rfl, hr3, hm3⟩
      go_wp2
      go_ret
      exact ⟨rfl, hr3, (((Mut.refl g w).drewN nq).trans hm2).trans hm3⟩
    · have hlt : x.pos < x.bs.length := by unfold leftR at hz; omega
      have hge : ¬ (x.bs.length : Int) ≤ (x.pos : Int) := by omega
      have hlti : (x.pos : Int) < (x.bs.length : Int) := by omega
      obtain ⟨ad, hA, hcell⟩ := h.row.u8_at x.pos hlt
      subst hA
      have hg : x.bs.getD x.pos 0 = x.bs[x.pos] := by rw [List.getD_eq_getElem?_getD, List.getElem?_eq_getElem hlt]; rfl
      have hbt := (x.bs[x.pos]).toNat_lt
      by_cases h1b : 1 < (x.bs[x.pos]).toNat
      · rw [show FlagR x = (false, failR x 6) by unfold FlagR; rw [if_pos he, if_pos (.inr (by rw [hg]; exact h1b))]]
        rw [he] at h2
        generalize failR x 6 = y at *
        generalize (x.bs[x.pos]).toNat = bt at *
        have hbi : (1 : Int) < (bt : Int) := by omega
        clear h he hz hg
        go_enter Try.func113, Try.ntmps113
        go_wp2_with fail
        go_quiet (fail)
        go_simp
        go_wp2_with fail
        refine (HF.out nq).mono ?_
        rintro e w2 ⟨rfl, hr2, hm2⟩
        go_wp2_with fail
        refine (HY.out _ hr2).mono ?_
        rintro e w3 ⟨rfl, hr3, hm3⟩
        go_wp2
        go_ret
        exact ⟨rfl, hr3, (((Mut.refl g w).drewN nq).trans hm2).trans hm3⟩
      · have hB : ByteR x = (((x.bs[x.pos]).toNat : Int), ⟨x.bs, x.pos + 1, x.err⟩) := by unfold ByteR; rw [if_pos he, if_neg hz, hg]
        have hFl : FlagR x = (decide ((x.bs[x.pos]).toNat = 1), ⟨x.bs, x.pos + 1, x.err⟩) := by
          unfold FlagR
          rw [if_pos he, if_neg (by rw [hg]; omega), hg]
        have Hb := Lib.hid (fun q => qByte_calls (w.drewN q) B g (some ad) c x (h.drewN q))
        rw [hB] at Hb
        rw [hFl]
        rw [he] at h2
        generalize (⟨x.bs, x.pos + 1, x.err⟩ : RdM) = y at *
        generalize (x.bs[x.pos]).toNat = bt at *
        have hbi : ¬ (1 : Int) < (bt : Int) := by omega
        have Hd := Lib.hid (show ((bt : Int) == 1) = decide (bt = 1) by rcases (show bt = 0 ∨ bt = 1 by omega) with rfl | rfl <;> rfl)
        clear h he hz hg hFl hB
        go_enter Try.func113, Try.ntmps113
        go_wp2_with fail
        go_quiet (fail)
        go_simp
        go_wp2_with fail
        refine (Hb.out nq).mono ?_
        rintro e w3 ⟨rfl, hr3, hm3⟩
        go_wp2
        go_ret
        exact ⟨by rw [← Hd.out]; rfl, hr3, ((Mut.refl g w).drewN nq).trans hm3⟩
  · rw [show FlagR x = (false, x) from if_neg he]
    have heb : (x.err == 0) = false := by rw [beq_eq_false_iff_ne]; exact he
    have HY := Lib.hid (fun q => show Calls Try.prog 63 #[.pointer (some ⟨g, 0, none⟩)] (w.drewN q) (QPost (w.drewN q) B g A c x (.int .i64 0)) from by
      have := qByte_calls (w.drewN q) B g A c x (h.drewN q)
      rw [ByteR_bad he] at this
      exact this)
    clear he
    go_enter Try.func113, Try.ntmps113
    go_wp2_with fail
    go_quiet (fail)
    go_simp
    go_wp2_with fail
    refine (HY.out nq).mono ?_
    rintro e w3 ⟨rfl, hr3, hm3⟩
    go_wp2
    go_ret
    exact ⟨rfl, hr3, ((Mut.refl g w).drewN nq).trans hm3⟩
theorem rest_bytes (x : RdM) (hp : x.pos ≤ x.bs.length) : RestR x = BytesR x ((leftR x : Nat) : Int) ∧ restL x = bytesL x ((leftR x : Nat) : Int) := by
  have h0 : ¬ ((leftR x : Nat) : Int) < 0 := by omega
  have h1 : ¬ ((leftR x : Nat) : Int) < ((leftR x : Nat) : Int) := by omega
  by_cases he : x.err = 0
  · simp only [RestR, BytesR, restL, bytesL, if_pos he, if_neg h0, if_neg h1, Int.toNat_natCast]
    refine ⟨?_, ?_⟩
    · congr 1
      unfold leftR
      omega
    · rw [List.take_of_length_le]
      rw [List.length_drop]
      exact Nat.le_refl _
  · simp only [RestR, BytesR, restL, bytesL, if_neg he]
    exact ⟨trivial, trivial⟩
end Go.Proofs.Ytaomhedjamnloaa
