/- The document's reader: Texts, Ints. -/
import Derived.Test.YtjmeoaookpnknaaRRd5
set_option linter.unusedVariables false
set_option linter.unusedSimpArgs false
namespace Go.Proofs.Ytjmeoaookpnknaa
open Go Go.RowKit

def QList {α : Type} (d : Kd α) (e : TypeId) (w : World) (B g : Nat) (A : Option Addr) (c : Nat) (y : RdM) (l : List α) (en : Ending) (w' : World) : Prop := ∃ v, en = .returned v ∧ Own d e w' w.heap.size (fun _ => False) v l ∧ QAt w' B g A c y ∧ Mut g w w'
theorem QAt.grown {w W w4 : World} {B g : Nat} {A : Option Addr} {c : Nat} {x y : RdM} {o : Obj} {row : Option Nat} (h0 : QAt w B g A c x) (h : QAt W B g A c y) (hw : w.heap.size ≤ W.heap.size) (hg : (W.alloc o).grownBy w4 row) (hr : ∀ j, row = some j → w.heap.size ≤ j) : QAt w4 B g A c y := by
  have hs : (W.alloc o).heap.size = W.heap.size + 1 := by simp
  have h1 := hg.size
  refine h.move (by omega) fun k hk hor => ?_
  have hkw : k < w.heap.size := by
    rcases hor with rfl | ⟨a, ha, rfl⟩
    · exact h0.lt
    · exact (h0.far a ha).2
  exact (hg.block k (by omega) (fun e => by have := hr k e.symm; omega)).trans (heap_alloc_old W o hk)
theorem listR_many {α : Type} (f : RdM → α × RdM) (x : RdM) (count : Int) : listR f x count =
    (if (manyR f (UintR x).1 (ManyR x count)).2.err = 0 then manyR f (UintR x).1 (ManyR x count) else ([], backR x (manyR f (UintR x).1 (ManyR x count)).2)) := by
  unfold listR
  by_cases he : x.err = 0
  · have hU : UintR x = uintR x := if_pos he
    have hM : ManyR x count = countR x count := by
      by_cases hy : (uintR x).2.err = 0
      · by_cases hl : (max count 0).toNat < (uintR x).1
        · simp [ManyR, countR, selR, longB, hU, hy, hl]
        · simp [ManyR, countR, selR, longB, hU, hy, hl]
      · simp [ManyR, countR, selR, longB, hU, hy]
    rw [if_pos he, hU, hM]
  · have hM : ManyR x count = x := by
      unfold ManyR
      rw [UintR_bad he]
      simp only
      rw [decide_eq_false he]
      rfl
    rw [if_neg he, hM, UintR_bad he, if_neg (show ¬ (manyR f ((0, x) : Nat × RdM).1 x).2.err = 0 from he)]
    show ([], x) = ([], backR x x)
    rw [backR_same rfl]
theorem ManyR_bs (x : RdM) (count : Int) : (ManyR x count).bs = x.bs := by
  unfold ManyR selR
  split
  · rw [failR_bs, UintR_bs]
  · exact UintR_bs x
set_option maxRecDepth 100000 in
set_option maxHeartbeats 8000000 in
theorem qInts_calls (w : World) (B g : Nat) (A : Option Addr) (c : Nat) (x : RdM) (h : QAt w B g A c x) (count : Int) (hcount : -9223372036854775808 ≤ count ∧ count ≤ 9223372036854775807) :
    Calls Try.prog 55 #[.pointer (some ⟨g, 0, none⟩), .int .i64 count] w (QList (num .i64) 2 w B g A c (IntsR x count).2 (IntsR x count).1) := by
  have Hc := Lib.hid (qmany_calls w B g A c x h count hcount)
  obtain ⟨p0, p1, p2⟩ := h.cells
  have hxp := h.pos
  have hbs := ManyR_bs x count
  have hL : IntsR x count = if (manyR IntR (UintR x).1 (ManyR x count)).2.err = 0 then manyR IntR (UintR x).1 (ManyR x count) else ([], backR x (manyR IntR (UintR x).1 (ManyR x count)).2) := listR_many _ x count
  have hN64 := UintR_lt x
  generalize (UintR x).1 = N at *
  generalize ManyR x count = x1 at *
  generalize IntsR x count = fin at *
  have HL := Lib.hid hL
  clear hL hcount
  go_enter Try.func55, Try.ntmps55
  go_wp2_with fail
  refine Hc.out.mono ?_
  rintro e w2 ⟨rfl, hr, hm2⟩
  go_wp2_with fail
  go_loopw [7, 8] (fun o i w' => ∃ (k : Nat) (y : RdM) (l : List Int), i = .int .u64 k ∧ Midst IntR x1 N k y l ∧ Own (num .i64) 2 w' w.heap.size (fun _ => False) o l ∧ QAt w' B g A c y ∧ Mut g w w') (fun _ i _ => N - (intOf i).toNat)
  case atStart => exact ⟨0, x1, [], rfl, Midst.start _ _ _, Own.nil _ _ _ _ _, hr, hm2⟩
  case round =>
    obtain ⟨k, y, l, rfl, hM, ho, hry, hmy⟩ := hrel
    have hsz := hmy.size
    have hll := hM.len
    have hyl := hry.len
    have hyp := hry.pos
    have hkN := hM.le
    obtain ⟨q0, q1, q2⟩ := hry.cells
    by_cases hy : y.err = 0
    · obtain ⟨hg1, hx1⟩ := hM.good hy
      have Hq2 := Lib.hid q2
      rw [hy] at q2
      by_cases hk : k < N
      · have hkn : (k : Int) < (N : Int) := by omega
        have Hs := Lib.hid (hM.step hy hk (UintR_bs y) (IntR_pos hy) hyp)
        have Hi := Lib.hid (qInt_calls _ B g A c y hry)
        have hi64 := IntR_i64 y
        generalize (IntR y).1 = n at *
        generalize (IntR y).2 = z at *
        have Hi64 := Lib.hid hi64
        clear hi64
        obtain ⟨A3, c3, e3, _, _⟩ := ho.slice
        subst e3
        have Ho := Lib.hid ho
        have hk1 : (k : Int) + 1 < 18446744073709551616 := by omega
        clear ho hM hy hx1
        go_wp2_with fail
        refine Hi.out.mono ?_
        rintro e w3 ⟨rfl, hr3, hm3⟩
        have hsz3 := hm3.size
        have ho3 := Ho.out.step (w' := w3) (fun j hj => hm3.block j (Ho.out.at hj).2 (fun e => by have := (Ho.out.at hj).1; have := h.lt; omega)) (fun _ h => h.elim)
        have hrow := fun j (hj : (Value.slice A3 l.length c3).ownBlock = some j) => (Ho.out.at hj).1
        have hsw3 := Nat.le_trans hsz hsz3
        have hb := Lib.hid (boxed1 (heap_alloc_new w3 (.cells #[.int .i64 n] 2)))
        have hll2 : l.length ≤ 1099511627777 := by omega
        clear hll hyl hyp hg1 q0 q1 q2
        go_wp2_with (at_builtin; go_must (refine app_onef (num .i64) (flat_num .i64) w.heap.size rfl (.tmp 28) (.tmp 31) 31 2 8 rfl Try.underlying31 info_i64 (.slice A3 l.length c3) l n w3.heap.size [.int .i64 n] (fun _ => False) rfl rfl (ho3.alloc _) hb.out (num64_one _ _ _ Hi64.out) (by omega) (by simp only [maxLen]; omega) (by simp; omega) ?_; intro v4 w4 ho4 hg4 ha4; have hr4 := h.grown hr3 hsw3 hg4 hrow))
        go_roundw
        case rel => exact ⟨k + 1, z, l ++ [n], by rw [Int.natCast_succ], Hs.out, ho4, hr4, (hmy.trans hm3).grown hg4 hrow⟩
        case measure =>
          have e1 : intOf (Value.int .u64 ((k : Int) + 1)) = (k : Int) + 1 := rfl
          have e2 : intOf (Value.int .u64 (k : Int)) = (k : Int) := rfl
          rw [e1, e2]
          omega
      · have hkn : ¬ (k : Int) < (N : Int) := by omega
        have Hfin := Lib.hid (show fin = (l, y) by rw [HL.out, hM.done (.inr (by omega)), if_pos hy])
        clear hM hy hx1
        go_wp2_with fail
        go_ret
        exact ⟨_, rfl, by rw [Hfin.out]; exact ho, by rw [Hfin.out]; exact hry, hmy⟩
    · have hyb : (y.err == 0) = false := by rw [beq_eq_false_iff_ne]; exact hy
      have Hfin := Lib.hid (show fin = ([], backR x y) by rw [HL.out, hM.done (.inl hy), if_neg hy])
      obtain ⟨f1, f2⟩ := hry.frozen
      obtain ⟨hb, hmb⟩ := hry.back x.pos (by rw [hM.bs, hbs]; exact hxp)
      have Hb := Lib.hid (And.intro hb (hmy.trans hmb))
      clear hb hmb hM hy
      cases hkn : decide ((k : Int) < (N : Int)) with
      | true =>
        have hkn2 : (k : Int) < (N : Int) := of_decide_eq_true hkn
        go_wp2_with fail
        go_ret
        exact ⟨_, rfl, by rw [Hfin.out]; exact Own.nil _ _ _ _ _, by rw [Hfin.out]; exact Hb.out.1, Hb.out.2⟩
      | false =>
        have hkn2 : ¬ (k : Int) < (N : Int) := of_decide_eq_false hkn
        go_wp2_with fail
        go_ret
        exact ⟨_, rfl, by rw [Hfin.out]; exact Own.nil _ _ _ _ _, by rw [Hfin.out]; exact Hb.out.1, Hb.out.2⟩
set_option maxRecDepth 100000 in
set_option maxHeartbeats 8000000 in
theorem qTexts_calls (w : World) (B g : Nat) (A : Option Addr) (c : Nat) (x : RdM) (h : QAt w B g A c x) (count : Int) (hcount : -9223372036854775808 ≤ count ∧ count ≤ 9223372036854775807) (most : Int) (hmost : -9223372036854775808 ≤ most ∧ most ≤ 9223372036854775807) :
    Calls Try.prog 54 #[.pointer (some ⟨g, 0, none⟩), .int .i64 count, .int .i64 most] w (QList str 9 w B g A c (TextsR x count most).2 (TextsR x count most).1) := by
  have Hc := Lib.hid (qmany_calls w B g A c x h count hcount)
  obtain ⟨p0, p1, p2⟩ := h.cells
  have hxp := h.pos
  have hbs := ManyR_bs x count
  have hL : TextsR x count most = if (manyR (fun y => TextR y most) (UintR x).1 (ManyR x count)).2.err = 0 then manyR (fun y => TextR y most) (UintR x).1 (ManyR x count) else ([], backR x (manyR (fun y => TextR y most) (UintR x).1 (ManyR x count)).2) := listR_many _ x count
  have hN64 := UintR_lt x
  generalize (UintR x).1 = N at *
  generalize ManyR x count = x1 at *
  generalize TextsR x count most = fin at *
  have HL := Lib.hid hL
  clear hL hcount
  go_enter Try.func54, Try.ntmps54
  go_wp2_with fail
  refine Hc.out.mono ?_
  rintro e w2 ⟨rfl, hr, hm2⟩
  go_wp2_with fail
  go_loopw [9, 10] (fun o i w' => ∃ (k : Nat) (y : RdM) (l : List ByteArray), i = .int .u64 k ∧ Midst (fun y => TextR y most) x1 N k y l ∧ Own str 9 w' w.heap.size (fun _ => False) o l ∧ QAt w' B g A c y ∧ Mut g w w') (fun _ i _ => N - (intOf i).toNat)
  case atStart => exact ⟨0, x1, [], rfl, Midst.start _ _ _, Own.nil _ _ _ _ _, hr, hm2⟩
  case round =>
    obtain ⟨k, y, l, rfl, hM, ho, hry, hmy⟩ := hrel
    have hsz := hmy.size
    have hll := hM.len
    have hyl := hry.len
    have hyp := hry.pos
    have hkN := hM.le
    obtain ⟨q0, q1, q2⟩ := hry.cells
    by_cases hy : y.err = 0
    · obtain ⟨hg1, hx1⟩ := hM.good hy
      have Hq2 := Lib.hid q2
      rw [hy] at q2
      by_cases hk : k < N
      · have hkn : (k : Int) < (N : Int) := by omega
        have Hs := Lib.hid (hM.step hy hk (TextR_bs y most) (TextR_pos hy) hyp)
        have Hi := Lib.hid (qText_calls _ B g A c y hry most hmost)
        have hi64 := Nat.le_trans (TextR_size y most) hyl
        generalize (TextR y most).1 = n at *
        generalize (TextR y most).2 = z at *
        have Hi64 := Lib.hid hi64
        clear hi64
        obtain ⟨A3, c3, e3, _, _⟩ := ho.slice
        subst e3
        have Ho := Lib.hid ho
        have hk1 : (k : Int) + 1 < 18446744073709551616 := by omega
        clear ho hM hy hx1
        go_wp2_with fail
        refine Hi.out.mono ?_
        rintro e w3 ⟨rfl, hr3, hm3⟩
        have hsz3 := hm3.size
        have ho3 := Ho.out.step (w' := w3) (fun j hj => hm3.block j (Ho.out.at hj).2 (fun e => by have := (Ho.out.at hj).1; have := h.lt; omega)) (fun _ h => h.elim)
        have hrow := fun j (hj : (Value.slice A3 l.length c3).ownBlock = some j) => (Ho.out.at hj).1
        have hsw3 := Nat.le_trans hsz hsz3
        have hb := Lib.hid (boxed1 (heap_alloc_new w3 (.cells #[.string n] 9)))
        have hll2 : l.length ≤ 1099511627777 := by omega
        clear hll hyl hyp hg1 q0 q1 q2
        go_wp2_with (at_builtin; go_must (refine app_onef str (flat_str) w.heap.size rfl (.tmp 30) (.tmp 34) 30 9 16 rfl Try.underlying30 info_str (.slice A3 l.length c3) l n w3.heap.size [.string n] (fun _ => False) rfl rfl (ho3.alloc _) hb.out ⟨rfl, Nat.le_trans Hi64.out (by decide)⟩ (by omega) (by simp only [maxLen]; omega) (by simp; omega) ?_; intro v4 w4 ho4 hg4 ha4; have hr4 := h.grown hr3 hsw3 hg4 hrow))
        go_roundw
        case rel => exact ⟨k + 1, z, l ++ [n], by rw [Int.natCast_succ], Hs.out, ho4, hr4, (hmy.trans hm3).grown hg4 hrow⟩
        case measure =>
          have e1 : intOf (Value.int .u64 ((k : Int) + 1)) = (k : Int) + 1 := rfl
          have e2 : intOf (Value.int .u64 (k : Int)) = (k : Int) := rfl
          rw [e1, e2]
          omega
      · have hkn : ¬ (k : Int) < (N : Int) := by omega
        have Hfin := Lib.hid (show fin = (l, y) by rw [HL.out, hM.done (.inr (by omega)), if_pos hy])
        clear hM hy hx1
        go_wp2_with fail
        go_ret
        exact ⟨_, rfl, by rw [Hfin.out]; exact ho, by rw [Hfin.out]; exact hry, hmy⟩
    · have hyb : (y.err == 0) = false := by rw [beq_eq_false_iff_ne]; exact hy
      have Hfin := Lib.hid (show fin = ([], backR x y) by rw [HL.out, hM.done (.inl hy), if_neg hy])
      obtain ⟨f1, f2⟩ := hry.frozen
      obtain ⟨hb, hmb⟩ := hry.back x.pos (by rw [hM.bs, hbs]; exact hxp)
      have Hb := Lib.hid (And.intro hb (hmy.trans hmb))
      clear hb hmb hM hy
      cases hkn : decide ((k : Int) < (N : Int)) with
      | true =>
        have hkn2 : (k : Int) < (N : Int) := of_decide_eq_true hkn
        go_wp2_with fail
        go_ret
        exact ⟨_, rfl, by rw [Hfin.out]; exact Own.nil _ _ _ _ _, by rw [Hfin.out]; exact Hb.out.1, Hb.out.2⟩
      | false =>
        have hkn2 : ¬ (k : Int) < (N : Int) := of_decide_eq_false hkn
        go_wp2_with fail
        go_ret
        exact ⟨_, rfl, by rw [Hfin.out]; exact Own.nil _ _ _ _ _, by rw [Hfin.out]; exact Hb.out.1, Hb.out.2⟩
end Go.Proofs.Ytjmeoaookpnknaa
