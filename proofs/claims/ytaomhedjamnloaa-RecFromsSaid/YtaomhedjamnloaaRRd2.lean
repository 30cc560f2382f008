/- The document's reader: Bytes, Byte, Flag, Rest. -/
import Derived.Test.YtaomhedjamnloaaRRd1
import Derived.StillTailTactics
import Derived.IntWalk
set_option linter.unusedVariables false
set_option linter.unusedSimpArgs false
namespace Go.Proofs.Ytaomhedjamnloaa
open Go Go.RowKit

def QOwn (w : World) (B g : Nat) (A : Option Addr) (c : Nat) (y : RdM) (l : List UInt8) (e : Ending) (w' : World) : Prop := ∃ v, e = .returned v ∧ Own kb 5 w' w.heap.size (fun _ => False) v l ∧ QAt w' B g A c y ∧ Mut g w w'
theorem failR_err (x : RdM) {e : Int} (he : e ≠ 0) : (failR x e).err ≠ 0 := by
  unfold failR
  split
  · exact he
  · assumption
theorem failR_bad {x : RdM} {e : Int} (he : x.err ≠ 0) : failR x e = x := if_neg he
theorem BytesR_neg {x : RdM} {n : Int} (h : n < 0) : BytesR x n = failR x 2 ∧ bytesL x n = [] := by
  unfold BytesR bytesL
  by_cases he : x.err = 0
  · rw [if_pos he, if_pos he, if_pos h, if_pos h]
    exact ⟨rfl, rfl⟩
  · rw [if_neg he, if_neg he, failR_bad he]
    exact ⟨rfl, rfl⟩
theorem BytesR_far {x : RdM} {n : Int} (h : ¬ n < 0) (h2 : (leftR x : Int) < n) : BytesR x n = failR x 6 ∧ bytesL x n = [] := by
  unfold BytesR bytesL
  by_cases he : x.err = 0
  · rw [if_pos he, if_pos he, if_neg h, if_neg h, if_pos h2, if_pos h2]
    exact ⟨rfl, rfl⟩
  · rw [if_neg he, if_neg he, failR_bad he]
    exact ⟨rfl, rfl⟩
set_option maxRecDepth 8000 in
set_option maxHeartbeats 4000000 in
theorem qBytes_calls (w : World) (B g : Nat) (A : Option Addr) (c : Nat) (x : RdM) (h : QAt w B g A c x) (n : Int) (hn : -9223372036854775808 ≤ n ∧ n ≤ 9223372036854775807) :
    Calls Try.prog 110 #[.pointer (some ⟨g, 0, none⟩), .int .i64 n] w (QOwn w B g A c (BytesR x n) (bytesL x n)) := by
  obtain ⟨h0, h1, h2⟩ := h.cells
  have hp := h.pos
  have hl := h.len
  have hc := h.cap
  by_cases hneg : n < 0
  · rw [(BytesR_neg hneg).1, (BytesR_neg hneg).2]
    have Hf := Lib.hid (Rfail_calls w B g A c x h 2)
    have hbad : ((failR x 2).err == 0) = false := by rw [beq_eq_false_iff_ne]; exact failR_err x (by decide)
    generalize failR x 2 = y at *
    go_enter Try.func110, Try.ntmps110
    go_wp2_with fail
    refine Hf.out.mono ?_
    rintro e w2 ⟨rfl, hr2, hm2⟩
    obtain ⟨k0, k1, k2⟩ := hr2.cells
    have hyp := hr2.pos
    have hyl := hr2.len
    have hlt : ¬ (y.bs.length : Int) - (y.pos : Int) < n := by omega
    have Hr2 := Lib.hid hr2
    clear hr2 h h0 h1 h2
    go_wp2_with fail
    go_quiet (fail)
    go_simp
    go_wp2
    go_ret
    exact ⟨_, rfl, Own.nil _ _ _ _ _, Hr2.out.drewN nq, hm2.drewN nq⟩
  · by_cases hgt : (leftR x : Int) < n
    · have hlt : (x.bs.length : Int) - (x.pos : Int) < n := by unfold leftR at hgt; omega
      rw [(BytesR_far hneg hgt).1, (BytesR_far hneg hgt).2]
      have Hf := Lib.hid (fun q => Rfail_calls _ B g A c x (h.drewN q) 6)
      have hbad : ((failR x 6).err == 0) = false := by rw [beq_eq_false_iff_ne]; exact failR_err x (by decide)
      generalize failR x 6 = y at *
      clear h hgt
      go_enter Try.func110, Try.ntmps110
      go_wp2_with fail
      go_quiet (fail)
      go_simp
      go_wp2_with fail
      refine (Hf.out nq).mono ?_
      rintro e w2 ⟨rfl, hr2, hm2⟩
      obtain ⟨k0, k1, k2⟩ := hr2.cells
      have Hr2 := Lib.hid hr2
      clear hr2 h0 h1 h2
      go_wp2
      go_ret
      exact ⟨_, rfl, Own.nil _ _ _ _ _, Hr2.out, ((Mut.refl g w).drewN nq).trans hm2⟩
    · have hlt : ¬ (x.bs.length : Int) - (x.pos : Int) < n := by unfold leftR at hgt; omega
      by_cases he : x.err = 0
      · obtain ⟨k, rfl⟩ := Int.eq_ofNat_of_zero_le (show 0 ≤ n by omega)
        rw [show BytesR x k = ⟨x.bs, x.pos + k, x.err⟩ by unfold BytesR; rw [if_pos he, if_neg hneg, if_neg hgt]; rfl, show bytesL x k = (x.bs.drop x.pos).take k by unfold bytesL; rw [if_pos he, if_neg hneg, if_neg hgt]; rfl]
        have hk : x.pos + k ≤ x.bs.length := by omega
        obtain ⟨f1, f2⟩ := h.frozen
        have hsl := fun W => slice_mid (P := Try.prog) 31 5 1 Try.underlying31 size_u8 A x.bs.length c (x.pos : Int) ((x.pos : Int) + (k : Int)) (by omega) (by omega) (by omega) W .i64 .i64
        have e1 : ((x.pos : Int)).toNat = x.pos := by omega
        have e2 : ((x.pos : Int) + (k : Int)).toNat - x.pos = k := by omega
        simp only [e1, e2] at hsl
        clear e1 e2
        have hlen : ((x.bs.drop x.pos).take k).length = k := by rw [List.length_take, List.length_drop]; omega
        have Hcut := Lib.hid (fun W (hW : QAt W B g A c x) => show Sl kb W _ (.slice (cutA A c x.pos 1) ((x.bs.drop x.pos).take k).length (c - x.pos)) ((x.bs.drop x.pos).take k) from by
          have hcut := hW.row.cut c x.pos (x.pos + k) 1 rfl (by omega) hk h.cap
          rw [List.drop_take, Nat.add_sub_cancel_left] at hcut
          exact ⟨_, _, rfl, by omega, by have := h.max; omega, hcut⟩)
        have Hh := Lib.hid h
        rw [he] at h2
        clear h hgt hneg
        generalize (x.bs.drop x.pos).take k = t at *
        subst hlen
        have Hhe := Lib.hid he
        clear he
        go_enter Try.func110, Try.ntmps110
        go_wp2_with fail
        go_quiet (fail)
        go_simp
        go_upto_region 8 with fail
        have hq := Hh.out.drewN nq
        have Hm3 := Lib.hid ((Mut.refl g w).drewN nq)
        generalize w.drewN nq = w3 at *
        obtain ⟨k0, k1, k2⟩ := hq.cells
        have hwr : IntKind.i64.wrap ((x.pos : Int) + (t.length : Int)) = (x.pos : Int) + (t.length : Int) := IntWalk.i64_in _ (by omega)
        go_still_tail 16, (by kernel_rfl)
        change wpList _ _ _ _ _ w3.drew
        have Hq4 := Lib.hid (hq.drewN 1)
        have Hm4 := Lib.hid (Hm3.out.drewN 1)
        have Hcut4 := Lib.hid (Hcut.out _ (hq.drewN 1))
        change Hid (QAt w3.drew B g A c x) at Hq4
        change Hid (Mut g w w3.drew) at Hm4
        change Hid (Sl kb w3.drew _ _ _) at Hcut4
        have hg4 := hq.lt
        change g < w3.drew.heap.size at hg4
        have hsz4 := Hm4.out.size
        clear hq k0 k1 k2 Hm3 hwr
        generalize w3.drew = w4 at *
        go_upto_region 9 with (at_builtin; go_must (refine app_flat kb flat_kb w.heap.size rfl (.tmp 29) (.tmp 44) 31 5 1 rfl Try.underlying31 info_u8 (.slice none 0 0) (.slice (cutA A c x.pos 1) t.length (c - x.pos)) [] t (fun _ => False) _ rfl rfl (Own.nil _ _ _ _ _) Hcut4.out (by simp only [List.length_nil]; omega) (by simp only [maxLen, List.length_nil]; omega) (by omega) ?_; intro v5 w5 ho5 hg5 ha5))
        have hb5 : Below w4.heap.size w4 w5 := (Below.refl _ _).grown hg5 (Nat.le_refl _) (fun j hj => by cases hj)
        have hq5 := Hq4.out.ext hb5
        have hm5 := Hm4.out.trans (Mut.of hb5)
        have hv5 : ∀ j, v5.ownBlock = some j → j ≠ g := fun j hj => by
          rcases ha5 with e | e
          · rw [e] at hj; cases hj
          · rw [e] at hj
            injection hj with hj
            omega
        have hst := heap_set_eq2 w5 g 1 _ _ (0, 0) (.int .i64 ((x.pos : Int) + (t.length : Int))) hq5.obj
        have Hm6 := Lib.hid (hm5.set 1 (.int .i64 ((x.pos : Int) + (t.length : Int))))
        have Hfin := Lib.hid (hq5.upd ((Mut.refl g w5).set 1 (.int .i64 ((x.pos : Int) + (t.length : Int)))) (x.pos + t.length) x.err (by rw [hst]; simp) hk)
        have Ho6 := Lib.hid (ho5.set_ne (p := ⟨g, 1, none⟩) (u := .int .i64 ((x.pos : Int) + (t.length : Int))) hv5 (fun _ h => h.elim))
        obtain ⟨k0, k1, k2⟩ := hq5.cells
        obtain ⟨l1, l2⟩ := hq5.frozen
        rw [List.nil_append] at Ho6
        clear hst hq5 hm5 hb5 ho5 hg5 ha5 hv5
        go_wp2
        go_ret
        exact ⟨v5, rfl, Ho6.out, Hfin.out, Hm6.out⟩
      · have hbad : (x.err == 0) = false := by rw [beq_eq_false_iff_ne]; exact he
        rw [show BytesR x n = x from if_neg he, show bytesL x n = [] from if_neg he]
        have Hh := Lib.hid h
        clear h hgt
        go_enter Try.func110, Try.ntmps110
        go_wp2_with fail
        go_quiet (fail)
        go_simp
        go_wp2
        go_ret
        exact ⟨_, rfl, Own.nil _ _ _ _ _, Hh.out.drewN nq, (Mut.refl g w).drewN nq⟩
theorem ByteR_bytes (x : RdM) (hp : x.pos ≤ x.bs.length) : ByteR x = (match bytesL x 1 with | [] => 0 | b :: _ => (b.toNat : Int), BytesR x 1) := by
  have h01 : ¬ ((1 : Int) < 0) := by decide
  by_cases he : x.err = 0
  · by_cases hz : leftR x = 0
    · have h1 : ((leftR x : Nat) : Int) < 1 := by omega
      simp only [ByteR, BytesR, bytesL, if_pos he, if_pos hz, if_neg h01, if_pos h1]
    · have h1 : ¬ ((leftR x : Nat) : Int) < 1 := by omega
      have hlt : x.pos < x.bs.length := by unfold leftR at hz; omega
      have hg : x.bs.getD x.pos 0 = x.bs[x.pos] := by rw [List.getD_eq_getElem?_getD, List.getElem?_eq_getElem hlt]; rfl
      simp only [ByteR, BytesR, bytesL, if_pos he, if_neg hz, if_neg h01, if_neg h1]
      rw [List.drop_eq_getElem_cons hlt, hg]
      rfl
  · simp only [ByteR, BytesR, bytesL, if_neg he]
set_option maxRecDepth 8000 in
set_option maxHeartbeats 2000000 in
theorem qByte_calls (w : World) (B g : Nat) (A : Option Addr) (c : Nat) (x : RdM) (h : QAt w B g A c x) :
    Calls Try.prog 63 #[.pointer (some ⟨g, 0, none⟩)] w (QPost w B g A c (ByteR x).2 (.int .i64 (ByteR x).1)) := by
  rw [ByteR_bytes x h.pos]
  have Hb := Lib.hid (qBytes_calls w B g A c x h 1 (by decide))
  simp only
  generalize BytesR x 1 = y at *
  cases hbl : bytesL x 1 with
  | nil =>
    rw [hbl] at Hb
    clear hbl
    go_enter Try.func63, Try.ntmps63
    go_wp2_with fail
    refine Hb.out.mono ?_
    rintro e w2 ⟨v, rfl, ho, hr2, hm2⟩
    obtain ⟨A3, c3, e3, _, _⟩ := ho.slice
    simp only [List.length_nil] at e3
    subst e3
    go_simp
    go_wp2
    go_ret
    exact ⟨rfl, hr2, hm2⟩
  | cons b r =>
    rw [hbl] at Hb
    clear hbl
    go_enter Try.func63, Try.ntmps63
    go_wp2_with fail
    refine Hb.out.mono ?_
    rintro e w2 ⟨v, rfl, ho, hr2, hm2⟩
    obtain ⟨A3, c3, e3, _, _, hr3⟩ := ho.sl
    obtain ⟨ad, hA, hcell⟩ := hr3.u8_at 0 (by simp)
    subst hA
    subst e3
    simp only [List.getElem_cons_zero, List.length_cons] at hcell ⊢
    have hcell2 := hcell
    rw [show ad.add 0 = ad by unfold Addr.add; simp] at hcell2
    have hbt := b.toNat_lt
    generalize b.toNat = bt at *
    have hz : ((r.length : Int) + 1 == 0) = false := by simp; omega
    have hrl := ho.le
    simp only [List.length_cons] at hrl
    have hlt : (0 : Int) < (r.length : Int) + 1 := by omega
    clear ho hr3
    go_simp
    go_wp2
    go_ret
    exact ⟨rfl, hr2, hm2⟩
end Go.Proofs.Ytaomhedjamnloaa
