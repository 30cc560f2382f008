/- Contracts: from, Cut. -/
import Derived.Test.YtklbbpicfhalcaaIx3
import Derived.Test.YtklbbpicfhalcaaRegion5
set_option linter.unusedVariables false
set_option linter.unusedSimpArgs false
namespace Go.Proofs.Ytklbbpicfhalcaa
open Go Go.RowKit

theorem alloc_size0 (w : World) (o : Obj) : (w.alloc o).heap.size = w.heap.size + 1 := by simp
set_option maxRecDepth 8000 in
set_option maxHeartbeats 2000000 in
theorem From_calls (w : World) (B g : Nat) (v : Value) (x : IxM) (h : IxAt w B g v x) (o : Int) (hl : x.l.length ≤ 1099511627776) (hs : Rising x.l) :
    Calls Try.prog 33 #[.pointer (some ⟨g, 0, none⟩), .int .i64 o] w fun e w' => e = .returned (.int .i64 (fromM x o : Nat)) ∧ Ext w w' := by
  have hsearch : ∀ W B' bx bo, IxAt W B' g v x → W.cell? ⟨bx, 0, none⟩ = some (.pointer (some ⟨g, 0, none⟩)) → W.cell? ⟨bo, 0, none⟩ = some (.int .i64 o) → Calls Try.prog 29 #[.int .i64 x.l.length, .func (.func 58) #[] #[.pointer (some ⟨bx, 0, none⟩), .pointer (some ⟨bo, 0, none⟩)]] W fun e w' => e = .returned (.int .i64 (fromM x o : Nat)) ∧ Ext W w' := by
    intro W B' bx bo hx h1 h2
    refine Search_cut (fun e : Int × Int × Int => decide (e.1 < o)) z3 x.l _ _ _ W hl (enters_of Try.func58 (by kernel_rfl) (by kernel_rfl)) ?_ ?_
    · intro i j hij hj hq
      have := (hs i j hij hj).1
      simp only [decide_eq_true_eq] at hq ⊢
      omega
    · intro W' hE
      have := asks_from g B' bx bo o v x W' (hx.ext hE) (hE.cell h1) (hE.cell h2)
      intro i hi
      have h3 := this i hi
      have e : (!decide ((x.l.getD i z3).1 < o)) = decide (o ≤ (x.l.getD i (0, 0, 0)).1) := by
        show (!decide ((x.l.getD i (0, 0, 0)).1 < o)) = _
        rw [← decide_not]
        simp only [Int.not_lt]
      dsimp only
      rw [e]
      exact h3
  obtain ⟨A, c, rfl, hc, hm, hr⟩ := h.2.2.sl
  have hE1 := Ext.trans _ _ _ (Ext.alloc w (.cells #[.pointer (some ⟨g, 0, none⟩)] 22)) (Ext.alloc _ (.cells #[.int .i64 o] 2))
  have hcx := (Ext.alloc (w.alloc (.cells #[.pointer (some ⟨g, 0, none⟩)] 22)) (.cells #[.int .i64 o] 2)).cell (cell_new0 w (.pointer (some ⟨g, 0, none⟩)) 22)
  have hco := cell_new0 (w.alloc (.cells #[.pointer (some ⟨g, 0, none⟩)] 22)) (.int .i64 o) 2
  rw [alloc_size0] at hco
  have hx1 := h.ext hE1
  have Hs := Lib.hid (hsearch _ B _ _ hx1 hcx hco)
  obtain ⟨h0, h1, h2, h3, h4⟩ := hx1.cells
  clear hsearch hx1 h hr hco
  go_enter Try.func33, Try.ntmps33
  go_wp2_with fail
  refine Hs.out.mono ?_
  rintro e w' ⟨rfl, hE2⟩
  go_wp2
  go_ret
  exact ⟨rfl, Ext.trans _ _ _ hE1 hE2⟩
/-- What is left of an index that is cut. -/
def cutX (x : IxM) (n : Nat) : IxM := if n = 0 then ⟨-1, -1, x.late, x.gap, []⟩ else ⟨(x.l.getD (n - 1) z3).1, (x.l.getD (n - 1) z3).2.1, x.late, x.gap, x.l.take n⟩
def CutPost (w : World) (B g : Nat) (v : Value) (x : IxM) (o : Int) (e : Ending) (w' : World) : Prop :=
  (¬ (0 ≤ o ∧ o ≤ 1099511627776) ∧ e = .returned (.int .i64 2) ∧ w' = w) ∨ (0 ≤ o ∧ o ≤ 1099511627776 ∧ ∃ v', e = .returned (.int .i64 0) ∧ IxAt w' B g v' (cutX x (fromM x o)) ∧ Chg g none w w' ∧ (v'.ownBlock = v.ownBlock ∨ v'.ownBlock = none))
theorem lst_cut {w : World} {B g : Nat} {v : Value} {l : List (Int × Int × Int)} (h : Lst w B g v l) (n : Nat) (hn : n ≤ l.length) :
    ∃ A c, v = .slice A l.length c ∧ l.length ≤ c ∧ c ≤ maxLen ∧ Lst w B g (.slice A n n) (l.take n) := by
  obtain ⟨A, c, rfl, hc, hm, hr⟩ := h.sl
  refine ⟨A, c, rfl, hc, hm, ?_⟩
  have hn' : (l.take n).length = n := by rw [List.length_take]; omega
  cases A with
  | none =>
    obtain rfl : l = [] := by
      cases l with
      | nil => rfl
      | cons x l => obtain ⟨_, e, _⟩ := hr.ent_at 0 (by simp); cases e
    obtain rfl : n = 0 := by simpa using hn
    exact ⟨(fun e => by cases e), .inl (Own.nil _ _ _ _ _)⟩
  | some a =>
    obtain ⟨hb1, hb2⟩ := h.at (k := a.block) rfl
    exact ⟨h.1, .inr ⟨a, by rw [hn'], by omega, hb1, hb2, (hr.mono (fun k hk => by injection hk)).take n⟩⟩
theorem cut_fin {w W : World} {B g : Nat} {v v' : Value} {x y : IxM} {o : Int} (hg : B ≤ g) (ho1 : 0 ≤ o) (ho2 : o ≤ 1099511627776) (hy : cutX x (fromM x o) = y) (hh : W.heap[g]? = some (.cells #[.int .i64 y.offset, .int .i64 y.place, .int .i64 y.late, .int .i64 y.gap, v'] 67 (0, 0)))
    (hc : Chg g none w W) (hl : Lst W B g v' y.l) (hv : v'.ownBlock = v.ownBlock ∨ v'.ownBlock = none) : CutPost w B g v x o (.returned (.int .i64 0)) W :=
  .inr ⟨ho1, ho2, v', rfl, hy ▸ ⟨hg, hh, hl⟩, hc, hv⟩
set_option maxRecDepth 100000 in
set_option maxHeartbeats 4000000 in
theorem Cut_calls (w : World) (B g : Nat) (v : Value) (x : IxM) (h : IxAt w B g v x) (o : Int) (hl : x.l.length ≤ 1099511627776) (hs : Rising x.l) :
    Calls Try.prog 18 #[.pointer (some ⟨g, 0, none⟩), .int .i64 o] w (CutPost w B g v x o) := by
  by_cases ho : 0 ≤ o ∧ o ≤ 1099511627776
  · obtain ⟨ho1, ho2⟩ := ho
    have Hfr := Lib.hid (From_calls w B g v x h o hl hs)
    have hn : fromM x o ≤ x.l.length := cutN_le _ _
    obtain ⟨n, hn2⟩ : ∃ n, fromM x o = n := ⟨_, rfl⟩
    rw [hn2] at hn Hfr
    have Hn2 := Lib.hid hn2
    clear hn2
    go_enter Try.func18, Try.ntmps18
    go_wp2_with fail
    refine Hfr.out.mono ?_
    rintro e w1 ⟨rfl, hE1⟩
    have hx1 := h.ext hE1
    obtain ⟨A, c, rfl, hc, hm, hl2⟩ := lst_cut hx1.2.2 n hn
    obtain ⟨h0, h1, h2, h3, h4⟩ := hx1.cells
    have hf := hx1.frozen
    have hg1 : w1.heap[g]? = _ := hx1.2.1
    have h4' := heap_set_eq w1 g 4 _ _ (0, 0) (.slice A n n) hg1
    have hc4 : (w1.setCell ⟨g, 4, none⟩ (.slice A n n)).cell? ⟨g, 4, none⟩ = some (.slice A n n) := by simp [World.cell?, h4']
    have hch : Chg g none w w1 := ⟨hE1.os, hE1.tape, hE1.output, hE1.size, fun k hk _ _ => hE1.block k hk⟩
    obtain ⟨p1, p2, p3, p4⟩ := Two.put0 (a := .int .i64 (-1)) (b := .int .i64 (-1)) h4'
    obtain ⟨p5, p6, p7, p8⟩ := Two.put1 (a := .int .i64 (-1)) (b := .int .i64 (-1)) p4
    clear p3 p7
    have hlm : Lst (((w1.setCell ⟨g, 4, none⟩ (.slice A n n)).setCell ⟨g, 0, none⟩ (.int .i64 (-1))).setCell ⟨g, 1, none⟩ (.int .i64 (-1))) B g (.slice A n n) (x.l.take n) := hl2.move (by simp [World.setCell]) fun k hk => by
      have hne : k ≠ g := fun e => hl2.1 (e ▸ hk)
      rw [set_oth _ _ _ _ _ hne, set_oth _ _ _ _ _ hne, set_oth _ _ _ _ _ hne]
    have hvo : (Value.slice A n n).ownBlock = (Value.slice A x.l.length c).ownBlock ∨ (Value.slice A n n).ownBlock = none := by cases A <;> exact .inl rfl
    by_cases hn0 : 0 < n
    · go_upto_region 9 with fail
      obtain ⟨m, rfl⟩ : ∃ m, n = m + 1 := ⟨n - 1, by omega⟩
      obtain ⟨A2, c2, e, _, _, hr⟩ := hx1.2.2.sl
      injection e with e1 e2 e3
      subst e1
      subst e3
      obtain ⟨ad, rfl, r1, r2, r3⟩ := hr.ent_at m (by omega)
      have hgb : ad.block ≠ g := fun e => hl2.1 (by rw [← e]; rfl)
      have hbl : ad.block < w1.heap.size := (hl2.at (k := ad.block) rfl).2
      have hgd : x.l.getD m z3 = x.l[m] := by simp [show m < x.l.length by omega]
      have Hy := Lib.hid (show cutX x (m + 1) = ⟨x.l[m].1, x.l[m].2.1, x.late, x.gap, x.l.take (m + 1)⟩ by
        unfold cutX
        rw [if_neg (by omega), Nat.add_sub_cancel, hgd])
      clear hgd
      generalize x.l[m] = em at *
      generalize hw2 : ((w1.setCell ⟨g, 4, none⟩ (.slice (some ad) (m + 1) (m + 1))).setCell ⟨g, 0, none⟩ (.int .i64 (-1))).setCell ⟨g, 1, none⟩ (.int .i64 (-1)) = w2 at *
      have hch2 : Chg g none w w2 := hw2 ▸ ((hch.set_chg 4 _).set_chg 0 _).set_chg 1 _
      have hsz2 : w2.heap.size = w1.heap.size := by rw [← hw2]; simp [World.setCell]
      have hne2 : ∀ k, k ≠ g → w2.heap[k]? = w1.heap[k]? := fun k hne => by rw [← hw2, set_oth _ _ _ _ _ hne, set_oth _ _ _ _ _ hne, set_oth _ _ _ _ _ hne]
      clear hw2 p1 p2 p4 p5 p6 h4' hc4 hg1 hf h0 h1 h2 h3 h4 hx1
      have HW := Lib.hid (fun W (hE : Two g (.int .i64 em.1) (.int .i64 em.2.1) w2 W) => show (∃ a b, W.heap[g]? = some (.cells #[a, b, .int .i64 x.late, .int .i64 x.gap, .slice (some ad) (m + 1) (m + 1)] 67 (0, 0))) ∧ W.cell? (ad.add (m * 3)) = some (.int .i64 em.1) ∧ W.cell? ⟨(ad.add (m * 3)).block, (ad.add (m * 3)).off + 1, Option.none⟩ = some (.int .i64 em.2.1) by
        obtain ⟨a, b, h1, _⟩ := hE.two _ _ _ _ _ _ p8
        have hb := (hE.block ad.block (by rw [hsz2]; exact hbl) hgb).trans (hne2 _ hgb)
        refine ⟨⟨a, b, h1⟩, (World.cell?_of_block (by rw [add_block]; exact hb)).trans r1, (World.cell?_of_block (by show W.heap[(ad.add (m * 3)).block]? = _; rw [add_block]; exact hb)).trans r2⟩)
      refine wp_region_stepsB (Two g (.int .i64 em.1) (.int .i64 em.2.1)) (Two.refl g (.int .i64 em.1) (.int .i64 em.2.1)) (Two.trans g (.int .i64 em.1) (.int .i64 em.2.1)) (Two.drew g (.int .i64 em.1) (.int .i64 em.2.1)) [.eq (.pointer (some ⟨g, 0, none⟩)), .eq (.pointer (some ⟨g, 0, none⟩)), .eq (.pointer (some ⟨g, 0, none⟩)), .eq (.pointer (some ⟨g, 0, none⟩)), .eq (.pointer (some ⟨g, 4, none⟩)), .eq (.slice (some ad) (m + 1) (m + 1)), .eq (.int .i64 ((m + 1 : Nat) : Int)), .eq (.int .i64 (m : Int)), .eq (.pointer (some (ad.add (m * 3)))), .eq (.pointer (some (ad.add (m * 3)))), .eq (.int .i64 em.1), .eq (.pointer (some ⟨g, 0, none⟩)), .eq (.pointer (some ⟨g, 0, none⟩)), .eq (.pointer (some ⟨g, 4, none⟩)), .eq (.slice (some ad) (m + 1) (m + 1)), .eq (.int .i64 ((m + 1 : Nat) : Int)), .eq (.int .i64 (m : Int)), .eq (.pointer (some (ad.add (m * 3)))), .eq (.pointer (some ⟨(ad.add (m * 3)).block, (ad.add (m * 3)).off + 1, Option.none⟩)), .eq (.int .i64 em.2.1), .eq (.pointer (some ⟨g, 0, none⟩)), .eq (.pointer (some ⟨g, 0, none⟩)), .eq (.pointer (some ⟨g, 0, none⟩)), .fst g (.int .i64 em.1) (.int .i64 em.2.1), .eq (.pointer (some ⟨g, 0, none⟩)), .eq (.pointer (some ⟨g, 0, none⟩)), .eq (.pointer (some ⟨g, 1, none⟩)), .snd g (.int .i64 em.1) (.int .i64 em.2.1)] (by kernel_rfl) (by kernel_rfl) (fun j o' hj hd v v' w h => by
  have hj2 := none_in (ns := [23, 27]) (by kernel_rfl) hj hd
  simp only [List.mem_cons, List.not_mem_nil, or_false] at hj2
  rcases hj2 with rfl | rfl <;> exact h) ?_ ?_
      · refine ⟨?_, ?_, ?_, ?_, ?_, ?_, ?_, ?_, ?_, ?_, ?_, ?_, ?_, ?_, ?_, ?_, ?_, ?_, ?_, ?_, ?_, ?_, ?_, ?_, ?_, ?_, ?_, ?_, trivial⟩
        · intro S W K hE hf hd hK
          have f0 : S.tmps.getD 0 undef = .pointer (some ⟨g, 0, none⟩) := hf 0 (by kernel_rfl)
          refine want_free rfl ?_
          rw [Array.getD_eq_getD_getElem?] at f0
          go_simp
          exact hK _ _ (Two.refl g (.int .i64 em.1) (.int .i64 em.2.1) _) (rfl)
        · intro S W K hE hf hd hK
          have f0 : S.tmps.getD 0 undef = .pointer (some ⟨g, 0, none⟩) := hf 0 (by kernel_rfl)
          refine want_free rfl ?_
          rw [Array.getD_eq_getD_getElem?] at f0
          go_simp
          exact hK _ _ (Two.refl g (.int .i64 em.1) (.int .i64 em.2.1) _) (rfl)
        · intro S W K hE hf hd hK
          have f0 : S.tmps.getD 0 undef = .pointer (some ⟨g, 0, none⟩) := hf 0 (by kernel_rfl)
          refine want_free rfl ?_
          rw [Array.getD_eq_getD_getElem?] at f0
          go_simp
          exact hK _ _ (Two.refl g (.int .i64 em.1) (.int .i64 em.2.1) _) (rfl)
        · intro S W K hE hf hd hK
          have d41 : S.tmps.getD 41 undef = (.pointer (some ⟨g, 0, none⟩)) := hd 2 _ rfl (by kernel_rfl)
          refine want_free rfl ?_
          rw [Array.getD_eq_getD_getElem?] at d41
          go_simp
          exact hK _ _ (Two.refl g (.int .i64 em.1) (.int .i64 em.2.1) _) (rfl)
        · intro S W K hE hf hd hK
          have d42 : S.tmps.getD 42 undef = (.pointer (some ⟨g, 0, none⟩)) := hd 3 _ rfl (by kernel_rfl)
          refine want_free rfl ?_
          rw [Array.getD_eq_getD_getElem?] at d42
          go_simp
          exact hK _ _ (Two.refl g (.int .i64 em.1) (.int .i64 em.2.1) _) (rfl)
        · intro S W K hE hf hd hK
          have d43 : S.tmps.getD 43 undef = (.pointer (some ⟨g, 4, none⟩)) := hd 4 _ rfl (by kernel_rfl)
          refine want_free rfl ?_
          rw [Array.getD_eq_getD_getElem?] at d43
          obtain ⟨⟨qa, qb, hq⟩, _⟩ := HW.out W hE
          have hc1 : W.cell? ⟨g, 4, none⟩ = some (.slice (some ad) (m + 1) (m + 1)) := by simp [World.cell?, hq]
          go_simp
          exact hK _ _ (Two.refl _ _ _ _) rfl
        · intro S W K hE hf hd hK
          have f5 : S.tmps.getD 5 undef = .int .i64 ((m + 1 : Nat) : Int) := hf 5 (by kernel_rfl)
          refine want_free rfl ?_
          rw [Array.getD_eq_getD_getElem?] at f5
          go_simp
          exact hK _ _ (Two.refl g (.int .i64 em.1) (.int .i64 em.2.1) _) (rfl)
        · intro S W K hE hf hd hK
          have d45 : S.tmps.getD 45 undef = (.int .i64 ((m + 1 : Nat) : Int)) := hd 6 _ rfl (by kernel_rfl)
          refine want_free rfl ?_
          rw [Array.getD_eq_getD_getElem?] at d45
          have e1 : IntKind.i64.wrap (m : Int) = (m : Int) := by rw [IntKind.wrap_i64]; omega
          go_simp
          exact hK _ _ (Two.refl _ _ _ _) rfl
        · intro S W K hE hf hd hK
          have d44 : S.tmps.getD 44 undef = (.slice (some ad) (m + 1) (m + 1)) := hd 5 _ rfl (by kernel_rfl)
          have d46 : S.tmps.getD 46 undef = (.int .i64 (m : Int)) := hd 7 _ rfl (by kernel_rfl)
          refine want_free rfl ?_
          rw [Array.getD_eq_getD_getElem?] at d44 d46
          go_simp
          rw [if_pos (show (m : Int) < (m : Int) + 1 by omega)]
          go_simp
          exact hK _ _ (Two.refl _ _ _ _) rfl
        · intro S W K hE hf hd hK
          have d47 : S.tmps.getD 47 undef = (.pointer (some (ad.add (m * 3)))) := hd 8 _ rfl (by kernel_rfl)
          refine want_free rfl ?_
          rw [Array.getD_eq_getD_getElem?] at d47
          go_simp
          exact hK _ _ (Two.refl g (.int .i64 em.1) (.int .i64 em.2.1) _) (rfl)
        · intro S W K hE hf hd hK
          have d48 : S.tmps.getD 48 undef = (.pointer (some (ad.add (m * 3)))) := hd 9 _ rfl (by kernel_rfl)
          refine want_free rfl ?_
          rw [Array.getD_eq_getD_getElem?] at d48
          obtain ⟨_, hc1, _⟩ := HW.out W hE
          go_simp
          exact hK _ _ (Two.refl _ _ _ _) rfl
        · intro S W K hE hf hd hK
          have f0 : S.tmps.getD 0 undef = .pointer (some ⟨g, 0, none⟩) := hf 0 (by kernel_rfl)
          refine want_free rfl ?_
          rw [Array.getD_eq_getD_getElem?] at f0
          go_simp
          exact hK _ _ (Two.refl g (.int .i64 em.1) (.int .i64 em.2.1) _) (rfl)
        · intro S W K hE hf hd hK
          have d50 : S.tmps.getD 50 undef = (.pointer (some ⟨g, 0, none⟩)) := hd 11 _ rfl (by kernel_rfl)
          refine want_free rfl ?_
          rw [Array.getD_eq_getD_getElem?] at d50
          go_simp
          exact hK _ _ (Two.refl g (.int .i64 em.1) (.int .i64 em.2.1) _) (rfl)
        · intro S W K hE hf hd hK
          have d51 : S.tmps.getD 51 undef = (.pointer (some ⟨g, 0, none⟩)) := hd 12 _ rfl (by kernel_rfl)
          refine want_free rfl ?_
          rw [Array.getD_eq_getD_getElem?] at d51
          go_simp
          exact hK _ _ (Two.refl g (.int .i64 em.1) (.int .i64 em.2.1) _) (rfl)
        · intro S W K hE hf hd hK
          have d52 : S.tmps.getD 52 undef = (.pointer (some ⟨g, 4, none⟩)) := hd 13 _ rfl (by kernel_rfl)
          refine want_free rfl ?_
          rw [Array.getD_eq_getD_getElem?] at d52
          obtain ⟨⟨qa, qb, hq⟩, _⟩ := HW.out W hE
          have hc1 : W.cell? ⟨g, 4, none⟩ = some (.slice (some ad) (m + 1) (m + 1)) := by simp [World.cell?, hq]
          go_simp
          exact hK _ _ (Two.refl _ _ _ _) rfl
        · intro S W K hE hf hd hK
          have f5 : S.tmps.getD 5 undef = .int .i64 ((m + 1 : Nat) : Int) := hf 5 (by kernel_rfl)
          refine want_free rfl ?_
          rw [Array.getD_eq_getD_getElem?] at f5
          go_simp
          exact hK _ _ (Two.refl g (.int .i64 em.1) (.int .i64 em.2.1) _) (rfl)
        · intro S W K hE hf hd hK
          have d54 : S.tmps.getD 54 undef = (.int .i64 ((m + 1 : Nat) : Int)) := hd 15 _ rfl (by kernel_rfl)
          refine want_free rfl ?_
          rw [Array.getD_eq_getD_getElem?] at d54
          have e1 : IntKind.i64.wrap (m : Int) = (m : Int) := by rw [IntKind.wrap_i64]; omega
          go_simp
          exact hK _ _ (Two.refl _ _ _ _) rfl
        · intro S W K hE hf hd hK
          have d53 : S.tmps.getD 53 undef = (.slice (some ad) (m + 1) (m + 1)) := hd 14 _ rfl (by kernel_rfl)
          have d55 : S.tmps.getD 55 undef = (.int .i64 (m : Int)) := hd 16 _ rfl (by kernel_rfl)
          refine want_free rfl ?_
          rw [Array.getD_eq_getD_getElem?] at d53 d55
          go_simp
          rw [if_pos (show (m : Int) < (m : Int) + 1 by omega)]
          go_simp
          exact hK _ _ (Two.refl _ _ _ _) rfl
        · intro S W K hE hf hd hK
          have d56 : S.tmps.getD 56 undef = (.pointer (some (ad.add (m * 3)))) := hd 17 _ rfl (by kernel_rfl)
          refine want_free rfl ?_
          rw [Array.getD_eq_getD_getElem?] at d56
          go_simp
          exact hK _ _ (Two.refl g (.int .i64 em.1) (.int .i64 em.2.1) _) (rfl)
        · intro S W K hE hf hd hK
          have d57 : S.tmps.getD 57 undef = (.pointer (some ⟨(ad.add (m * 3)).block, (ad.add (m * 3)).off + 1, Option.none⟩)) := hd 18 _ rfl (by kernel_rfl)
          refine want_free rfl ?_
          rw [Array.getD_eq_getD_getElem?] at d57
          obtain ⟨_, _, hc1⟩ := HW.out W hE
          go_simp
          exact hK _ _ (Two.refl _ _ _ _) rfl
        · intro S W K hE hf hd hK
          have d39 : S.tmps.getD 39 undef = (.pointer (some ⟨g, 0, none⟩)) := hd 0 _ rfl (by kernel_rfl)
          refine want_free rfl ?_
          rw [Array.getD_eq_getD_getElem?] at d39
          go_simp
          exact hK _ _ (Two.refl g (.int .i64 em.1) (.int .i64 em.2.1) _) (rfl)
        · intro S W K hE hf hd hK
          have d59 : S.tmps.getD 59 undef = (.pointer (some ⟨g, 0, none⟩)) := hd 20 _ rfl (by kernel_rfl)
          refine want_free rfl ?_
          rw [Array.getD_eq_getD_getElem?] at d59
          go_simp
          exact hK _ _ (Two.refl g (.int .i64 em.1) (.int .i64 em.2.1) _) (rfl)
        · intro S W K hE hf hd hK
          have d60 : S.tmps.getD 60 undef = (.pointer (some ⟨g, 0, none⟩)) := hd 21 _ rfl (by kernel_rfl)
          refine want_free rfl ?_
          rw [Array.getD_eq_getD_getElem?] at d60
          go_simp
          exact hK _ _ (Two.refl g (.int .i64 em.1) (.int .i64 em.2.1) _) (rfl)
        · intro S W K hE hf hd hK
          have d61 : S.tmps.getD 61 undef = (.pointer (some ⟨g, 0, none⟩)) := hd 22 _ rfl (by kernel_rfl)
          have d49 : S.tmps.getD 49 undef = (.int .i64 em.1) := hd 10 _ rfl (by kernel_rfl)
          refine want_free rfl ?_
          rw [Array.getD_eq_getD_getElem?] at d61 d49
          obtain ⟨⟨qa, qb, hq⟩, _⟩ := HW.out W hE
          obtain ⟨p1, p2, p3, p4⟩ := Two.put0 (a := .int .i64 em.1) (b := .int .i64 em.2.1) hq
          go_simp
          exact hK undef _ p3 ⟨_, _, _, _, _, p4⟩
        · intro S W K hE hf hd hK
          have d40 : S.tmps.getD 40 undef = (.pointer (some ⟨g, 0, none⟩)) := hd 1 _ rfl (by kernel_rfl)
          refine want_free rfl ?_
          rw [Array.getD_eq_getD_getElem?] at d40
          go_simp
          exact hK _ _ (Two.refl g (.int .i64 em.1) (.int .i64 em.2.1) _) (rfl)
        · intro S W K hE hf hd hK
          have d62 : S.tmps.getD 62 undef = (.pointer (some ⟨g, 0, none⟩)) := hd 24 _ rfl (by kernel_rfl)
          refine want_free rfl ?_
          rw [Array.getD_eq_getD_getElem?] at d62
          go_simp
          exact hK _ _ (Two.refl g (.int .i64 em.1) (.int .i64 em.2.1) _) (rfl)
        · intro S W K hE hf hd hK
          have d63 : S.tmps.getD 63 undef = (.pointer (some ⟨g, 0, none⟩)) := hd 25 _ rfl (by kernel_rfl)
          refine want_free rfl ?_
          rw [Array.getD_eq_getD_getElem?] at d63
          go_simp
          exact hK _ _ (Two.refl g (.int .i64 em.1) (.int .i64 em.2.1) _) (rfl)
        · intro S W K hE hf hd hK
          have d64 : S.tmps.getD 64 undef = (.pointer (some ⟨g, 1, none⟩)) := hd 26 _ rfl (by kernel_rfl)
          have d58 : S.tmps.getD 58 undef = (.int .i64 em.2.1) := hd 19 _ rfl (by kernel_rfl)
          refine want_free rfl ?_
          rw [Array.getD_eq_getD_getElem?] at d64 d58
          obtain ⟨⟨qa, qb, hq⟩, _⟩ := HW.out W hE
          obtain ⟨p1, p2, p3, p4⟩ := Two.put1 (a := .int .i64 em.1) (b := .int .i64 em.2.1) hq
          go_simp
          exact hK undef _ p3 ⟨_, _, _, _, _, p4⟩
      · intro vs W hE hV
        have v0 : vs 0 = (.pointer (some ⟨g, 0, none⟩)) := hV 0 _ rfl
        have v1 : vs 1 = (.pointer (some ⟨g, 0, none⟩)) := hV 1 _ rfl
        have v2 : vs 2 = (.pointer (some ⟨g, 0, none⟩)) := hV 2 _ rfl
        have v3 : vs 3 = (.pointer (some ⟨g, 0, none⟩)) := hV 3 _ rfl
        have v4 : vs 4 = (.pointer (some ⟨g, 4, none⟩)) := hV 4 _ rfl
        have v5 : vs 5 = (.slice (some ad) (m + 1) (m + 1)) := hV 5 _ rfl
        have v6 : vs 6 = (.int .i64 ((m + 1 : Nat) : Int)) := hV 6 _ rfl
        have v7 : vs 7 = (.int .i64 (m : Int)) := hV 7 _ rfl
        have v8 : vs 8 = (.pointer (some (ad.add (m * 3)))) := hV 8 _ rfl
        have v9 : vs 9 = (.pointer (some (ad.add (m * 3)))) := hV 9 _ rfl
        have v10 : vs 10 = (.int .i64 em.1) := hV 10 _ rfl
        have v11 : vs 11 = (.pointer (some ⟨g, 0, none⟩)) := hV 11 _ rfl
        have v12 : vs 12 = (.pointer (some ⟨g, 0, none⟩)) := hV 12 _ rfl
        have v13 : vs 13 = (.pointer (some ⟨g, 4, none⟩)) := hV 13 _ rfl
        have v14 : vs 14 = (.slice (some ad) (m + 1) (m + 1)) := hV 14 _ rfl
        have v15 : vs 15 = (.int .i64 ((m + 1 : Nat) : Int)) := hV 15 _ rfl
        have v16 : vs 16 = (.int .i64 (m : Int)) := hV 16 _ rfl
        have v17 : vs 17 = (.pointer (some (ad.add (m * 3)))) := hV 17 _ rfl
        have v18 : vs 18 = (.pointer (some ⟨(ad.add (m * 3)).block, (ad.add (m * 3)).off + 1, Option.none⟩)) := hV 18 _ rfl
        have v19 : vs 19 = (.int .i64 em.2.1) := hV 19 _ rfl
        have v20 : vs 20 = (.pointer (some ⟨g, 0, none⟩)) := hV 20 _ rfl
        have v21 : vs 21 = (.pointer (some ⟨g, 0, none⟩)) := hV 21 _ rfl
        have v22 : vs 22 = (.pointer (some ⟨g, 0, none⟩)) := hV 22 _ rfl
        have v23 := hV 23 _ rfl
        have v24 : vs 24 = (.pointer (some ⟨g, 0, none⟩)) := hV 24 _ rfl
        have v25 : vs 25 = (.pointer (some ⟨g, 0, none⟩)) := hV 25 _ rfl
        have v26 : vs 26 = (.pointer (some ⟨g, 1, none⟩)) := hV 26 _ rfl
        have v27 := hV 27 _ rfl
        clear hV
        set_option maxRecDepth 100000 in simp only [putAll, List.map_cons, List.map_nil, List.length_cons, List.length_nil, Nat.reduceAdd, List.range_succ, List.range_zero, List.nil_append, List.cons_append]
        set_option maxRecDepth 100000 in go_simp
        obtain ⟨ya, pa, qa, sa, ta, f1⟩ := (show ∃ y p q s t, W.heap[g]? = some (.cells #[.int .i64 em.1, y, p, q, s] t (0, 0)) from v23)
        obtain ⟨yb, pb, qb, sb, tb, f2⟩ := (show ∃ y p q s t, W.heap[g]? = some (.cells #[y, .int .i64 em.2.1, p, q, s] t (0, 0)) from v27)
        obtain ⟨x3, y3, f3, _⟩ := hE.two _ _ _ _ _ _ p8
        have hfin : W.heap[g]? = some (.cells #[.int .i64 em.1, .int .i64 em.2.1, .int .i64 x.late, .int .i64 x.gap, .slice (some ad) (m + 1) (m + 1)] 67 (0, 0)) := by
          rw [f3] at f1 f2
          injection f1 with f1
          injection f1 with f1
          injection f1 with f1
          injection f2 with f2
          injection f2 with f2
          injection f2 with f2
          simp only [List.cons.injEq, and_true] at f1 f2
          rw [f3, f1.1, f2.2.1]
        have hchW : Chg g none w W := ⟨hE.os.trans hch2.os, hE.tape.trans hch2.tape, hE.output.trans hch2.output, Nat.le_trans hch2.size hE.size, fun k hk h1 h2 => (hE.block k (Nat.lt_of_lt_of_le hk hch2.size) h1).trans (hch2.block k hk h1 h2)⟩
        have hlW : Lst W B g (.slice (some ad) (m + 1) (m + 1)) (x.l.take (m + 1)) := hlm.move hE.size fun k hk => hE.block k (hlm.at hk).2 fun e => hlm.1 (e ▸ hk)
        have Hfin := Lib.hid (cut_fin (v := .slice (some ad) x.l.length c) (y := ⟨em.1, em.2.1, x.late, x.gap, x.l.take (m + 1)⟩) h.1 ho1 ho2 (by rw [Hn2.out]; exact Hy.out) hfin hchW hlW hvo)
        clear v0 v1 v2 v3 v4 v5 v6 v7 v8 v9 v10 v11 v12 v13 v14 v15 v16 v17 v18 v19 v20 v21 v22 v23 v24 v25 v26 v27 hfin hlW hchW f1 f2 f3 HW p8 hlm
        go_wp2
        go_ret
        exact Hfin.out
    · obtain rfl : n = 0 := by omega
      have Hfin := Lib.hid (cut_fin (v := .slice A x.l.length c) (y := ⟨-1, -1, x.late, x.gap, []⟩) hx1.1 ho1 ho2 (by rw [Hn2.out]; rfl) p8 (((hch.set_chg 4 _).set_chg 0 _).set_chg 1 _) hlm hvo)
      clear p8 hlm hvo
      go_wp2
      go_ret
      exact Hfin.out
  · have Hn := Lib.hid (show CutPost w B g v x o (.returned (.int .i64 2)) w from .inl ⟨ho, rfl, rfl⟩)
    clear h
    go_enter Try.func18, Try.ntmps18
    by_cases ho1 : 0 ≤ o
    · have ho2 : ¬ o ≤ 1099511627776 := fun h2 => ho ⟨ho1, h2⟩
      clear ho
      go_wp2
      go_ret
      exact Hn.out
    · clear ho
      go_wp2
      go_ret
      exact Hn.out
end Go.Proofs.Ytklbbpicfhalcaa