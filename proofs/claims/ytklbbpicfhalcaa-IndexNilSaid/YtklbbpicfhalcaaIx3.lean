/- Contract: Note. -/
import Derived.Test.YtklbbpicfhalcaaIx2
import Derived.Test.YtklbbpicfhalcaaRegion4
set_option linter.unusedVariables false
set_option linter.unusedSimpArgs false
namespace Go.Proofs.Ytklbbpicfhalcaa
open Go Go.RowKit

theorem info_ent : (Try.prog.info? 28).map (fun i => (i.zero.map (fun z => z.cells.size), i.size, i.bytes)) = some (some 3, 3, 24) := by kernel_rfl
def entC (e : Int × Int × Int) : List Value := [.int .i64 e.1, .int .i64 e.2.1, .int .i64 e.2.2]
theorem reps_ent {w : World} {F : Nat → Prop} : ∀ {xs : List (Int × Int × Int)} {cs : List Value}, Reps (ent.K w F) 3 xs cs → cs = xs.flatMap entC
  | [], cs, h => h
  | x :: xs, cs, h => by
    obtain ⟨c, cs', rfl, _, hK, hr⟩ := h
    rw [reps_ent hr, List.flatMap_cons]
    congr 1
theorem reps_ofEnt (w : World) (F : Nat → Prop) : ∀ (xs : List (Int × Int × Int)), Reps (ent.K w F) 3 xs (xs.flatMap entC)
  | [] => rfl
  | x :: xs => ⟨entC x, xs.flatMap entC, by rw [List.flatMap_cons], rfl, rfl, reps_ofEnt w F xs⟩
theorem entC_len : ∀ (xs : List (Int × Int × Int)), (xs.flatMap entC).length = xs.length * 3
  | [] => rfl
  | x :: xs => by
    rw [List.flatMap_cons, List.length_append, entC_len xs, List.length_cons]
    show 3 + _ = _
    omega
set_option maxRecDepth 8000 in
/-- A plan for one entry behind a list. -/
theorem plan_lst {w0 : World} {B g : Nat} {v : Value} {xs : List (Int × Int × Int)} (hl : Lst w0 B g v xs) (y : Int × Int × Int) (hg : g < w0.heap.size) (hn : xs.length ≤ 1099511627776) (hB : B ≤ w0.heap.size) :
    ∃ r C, r < w0.heap.size ∧ (∀ W, One r C w0 W → w0.grownBy W v.ownBlock) ∧
      ∀ W ty b, One r C w0 W → w0.heap.size ≤ b → W.heap[b]? = some (.cells (entC y).toArray 28 (0, 0)) → ∃ v1 W1, (Builtin.append_ #[40, 40] ty #[v, .slice (some ⟨b, 0, none⟩) 1 1]).run Try.prog W = .ok v1 W1 ∧ One r C W W1 ∧ Res ent 28 B v w0.heap.size r C (xs ++ [y]) v1 W1 := by
  rcases hl.2 with hown | ⟨A, rfl, h1, h2, h3, h4⟩
  · exact plan_own ent flat_ent 40 28 24 Try.underlying40 info_ent hown y (entC y) (fun _ _ => rfl) hg (by omega) (by simp only [maxLen]; omega) hB
  · obtain ⟨i, hi1, hi2⟩ := Option.map_eq_some_iff.1 info_ent
    simp only [Prod.mk.injEq] at hi2
    obtain ⟨hz, hsz, hby⟩ := hi2
    obtain ⟨z, hz1, hz2⟩ := Option.map_eq_some_iff.1 hz
    obtain ⟨cs, hcells, hreps⟩ := h4
    have hcs : cs.length = xs.length * ent.sz := Reps.length hreps
    refine ⟨g, w0.heap[g]'hg, hg, fun W hE => ⟨hE.os, hE.tape, hE.output, hE.size, fun k hk _ => ?_⟩, ?_⟩
    · by_cases hkg : k = g
      · subst hkg
        rcases hE.one with q | q
        · exact q
        · rw [q]; exact (Array.getElem?_eq_getElem hk).symm
      · exact hE.block k hk hkg
    · intro W ty b hE hb hbox
      have hcell : ∀ j u, cs[j]? = some u → W.cell? (A.add j) = some u := by
        intro j u hj
        have h0 : w0.cell? (A.add j) = some u := by
          rcases hcells with rfl | ⟨ad, e, _, hc⟩
          · simp at hj
          · injection e with e
            subst e
            exact hc j u hj
        have hne : A.block ≠ g := fun e => hl.1 (by rw [← e]; rfl)
        rw [← h0]
        exact World.cell?_of_block (by rw [add_block]; exact hE.block A.block h3 hne)
      have hnx : Builtin.nextslicecap (xs.length + 1) xs.length ≤ 2 * (xs.length + 1) := nextslicecap_le (by omega)
      have hrun := run_append_grow (P := Try.prog) W 40 ty 28 i z Try.underlying40 hi1 hz1 A xs.length xs.length cs (by rw [hcs, hsz]; rfl) hcell ⟨b, 0, none⟩ 1 1 (entC y) (by rw [hsz]; rfl) (boxed_cells hbox) (by omega) (by omega) (by rw [hby]; omega)
      have hf := fresh_res ent flat_ent 28 (B := B) (v := .slice (some A) xs.length xs.length) (us := entC y) y hz2 hcs hreps rfl (fun _ _ => rfl) hg (by simp only [maxLen]; omega) hB W xs.length hE (by omega)
      exact ⟨_, _, hrun, hf.2, hf.1⟩
/-- Block g and a row have changed, and no other. -/
structure Chg (g : Nat) (row : Option Nat) (w w' : World) : Prop where
  os : w'.os = w.os
  tape : w'.tape = w.tape
  output : w'.output = w.output
  size : w.heap.size ≤ w'.heap.size
  block : ∀ k, k < w.heap.size → k ≠ g → some k ≠ row → w'.heap[k]? = w.heap[k]?
theorem Chg.below {g : Nat} {row : Option Nat} {w w' : World} {B : Nat} (h : Chg g row w w') (hg : B ≤ g) (hr : ∀ k, row = some k → B ≤ k) (hs : B ≤ w.heap.size) : Below B w w' :=
  ⟨h.os, h.tape, h.output, h.size, fun k hk => h.block k (by omega) (by omega) fun e => by have := hr k e.symm; omega⟩
def lastP (l : List (Int × Int × Int)) : Int := (l.getD (l.length - 1) z3).2.1
def addsM (x : IxM) (p : Int) : Bool := x.l.isEmpty || decide (x.gap ≤ p - lastP x.l)
def noteX (x : IxM) (o p t : Int) : IxM := ⟨o, p, if x.late < t then t else x.late, x.gap, if addsM x p then x.l ++ [(o, p, x.late)] else x.l⟩
def noteM (x : IxM) (o p t : Int) : IxM × Int := if mayM o p t = true then (if o ≤ x.offset ∨ p ≤ x.place then (x, 21) else (noteX x o p t, 0)) else (x, 2)
def NotePost (w : World) (B g : Nat) (v : Value) (x : IxM) (o p t : Int) (e : Ending) (w' : World) : Prop :=
  ∃ v', e = .returned (.int .i64 (noteM x o p t).2) ∧ IxAt w' B g v' (noteM x o p t).1 ∧ Chg g v.ownBlock w w' ∧ (v'.ownBlock = v.ownBlock ∨ ∃ k, v'.ownBlock = some k ∧ w.heap.size ≤ k)
theorem NotePost.none {w : World} {B g : Nat} {v : Value} {x : IxM} {o p t : Int} (h : IxAt w B g v x) (n : Int) (hn : noteM x o p t = (x, n)) : NotePost w B g v x o p t (.returned (.int .i64 n)) w :=
  ⟨v, by rw [hn], by rw [hn]; exact h, ⟨rfl, rfl, rfl, Nat.le_refl _, fun _ _ _ _ => rfl⟩, .inl rfl⟩
/-- What the walk needs of the index. -/
structure Fits (x : IxM) : Prop where
  gap : 0 ≤ x.gap ∧ x.gap ≤ 4194304
  len : x.l.length ≤ 1099511627776
  place : ∀ e ∈ x.l, 0 ≤ e.2.1 ∧ e.2.1 ≤ 4194304
theorem lastP_at {l : List (Int × Int × Int)} (h : 0 < l.length) : lastP l = l[l.length - 1].2.1 := by
  unfold lastP
  simp [show l.length - 1 < l.length by omega]

/-- Three cells of an index written. -/
theorem put5 (W : World) (r : Nat) (a b c d f x y z : Value) (t : TypeId) (h : W.heap[r]? = some (.cells #[a, b, c, d, f] t (0, 0))) :
    W.cell? ⟨r, 0, none⟩ = some a ∧ W.frozen? ⟨r, 0, none⟩ = false ∧ (W.setCell ⟨r, 0, none⟩ x).cell? ⟨r, 1, none⟩ = some b ∧ (W.setCell ⟨r, 0, none⟩ x).frozen? ⟨r, 1, none⟩ = false ∧
    ((W.setCell ⟨r, 0, none⟩ x).setCell ⟨r, 1, none⟩ y).cell? ⟨r, 2, none⟩ = some c ∧ ((W.setCell ⟨r, 0, none⟩ x).setCell ⟨r, 1, none⟩ y).frozen? ⟨r, 2, none⟩ = false ∧
    (((W.setCell ⟨r, 0, none⟩ x).setCell ⟨r, 1, none⟩ y).setCell ⟨r, 2, none⟩ z).heap[r]? = some (.cells #[x, y, z, d, f] t (0, 0)) := by
  have h1 := heap_set_eq W r 0 _ t (0, 0) x h
  have h2 := heap_set_eq _ r 1 _ t (0, 0) y h1
  have h3 := heap_set_eq _ r 2 _ t (0, 0) z h2
  exact ⟨by simp [World.cell?, h], by simp [World.frozen?, h], by simp [World.cell?, h1], by simp [World.frozen?, h1], by simp [World.cell?, h2], by simp [World.frozen?, h2], h3⟩
theorem Chg.set_chg {g : Nat} {row : Option Nat} {w W : World} (h : Chg g row w W) (i : Nat) (u : Value) : Chg g row w (W.setCell ⟨g, i, none⟩ u) := by
  have hb := (Below.refl 0 W).setCell (p := ⟨g, i, none⟩) (Nat.zero_le _) u
  exact ⟨hb.os.trans h.os, hb.tape.trans h.tape, hb.output.trans h.output, Nat.le_trans h.size hb.size, fun k hk h1 h2 => (Below.heap_setCell W ⟨g, i, none⟩ u k h1).trans (h.block k hk h1 h2)⟩
theorem set_oth (W : World) (g i : Nat) (u : Value) (k : Nat) (h : k ≠ g) : (W.setCell ⟨g, i, none⟩ u).heap[k]? = W.heap[k]? := Below.heap_setCell W ⟨g, i, none⟩ u k h
theorem note_fin {w W0 : World} {B g : Nat} {v v' : Value} {x : IxM} {o p t L : Int} {l' : List (Int × Int × Int)} {a b c : Value} (hg : B ≤ g) (hn : noteM x o p t = (noteX x o p t, 0)) (hX : noteX x o p t = ⟨o, p, L, x.gap, l'⟩)
    (hh : W0.heap[g]? = some (.cells #[a, b, c, .int .i64 x.gap, v'] 67 (0, 0))) (hc : Chg g v.ownBlock w W0) (hl : Lst W0 B g v' l') (hv : v'.ownBlock = v.ownBlock ∨ ∃ k, v'.ownBlock = some k ∧ w.heap.size ≤ k) :
    NotePost w B g v x o p t (.returned (.int .i64 0)) (((W0.setCell ⟨g, 0, none⟩ (.int .i64 o)).setCell ⟨g, 1, none⟩ (.int .i64 p)).setCell ⟨g, 2, none⟩ (.int .i64 L)) := by
  obtain ⟨_, _, _, _, _, _, p7⟩ := put5 W0 g _ _ _ _ _ (.int .i64 o) (.int .i64 p) (.int .i64 L) _ hh
  refine ⟨v', by rw [hn], ?_, ((hc.set_chg 0 _).set_chg 1 _).set_chg 2 _, hv⟩
  rw [hn, hX]
  refine ⟨hg, p7, hl.move (by simp [World.setCell]) fun k hk => ?_⟩
  have hne : k ≠ g := fun e => hl.1 (e ▸ hk)
  rw [set_oth _ _ _ _ _ hne, set_oth _ _ _ _ _ hne, set_oth _ _ _ _ _ hne]
set_option maxRecDepth 8000 in
set_option maxHeartbeats 4000000 in
theorem Note_calls (w : World) (B g : Nat) (v : Value) (x : IxM) (h : IxAt w B g v x) (hf : Fits x) (hB : B ≤ w.heap.size) (o p t : Int) :
    Calls Try.prog 19 #[.pointer (some ⟨g, 0, none⟩), .int .i64 o, .int .i64 p, .int .i64 t] w (NotePost w B g v x o p t) := by
  obtain ⟨h0, h1, h2, h3, h4⟩ := h.cells
  have Hm := Lib.hid (may_calls w o p t)
  by_cases hmay : mayM o p t = true
  · rw [hmay] at Hm
    by_cases ho : o ≤ x.offset
    · have Hn := Lib.hid (NotePost.none h 21 (show noteM x o p t = (x, 21) by unfold noteM; rw [if_pos hmay, if_pos (.inl ho)]))
      go_enter Try.func19, Try.ntmps19
      go_wp2_with fail
      refine Hm.out.mono ?_
      rintro e w' ⟨rfl, rfl⟩
      go_wp2
      go_ret
      exact Hn.out
    · by_cases hp : p ≤ x.place
      · have Hn := Lib.hid (NotePost.none h 21 (show noteM x o p t = (x, 21) by unfold noteM; rw [if_pos hmay, if_pos (.inr hp)]))
        go_enter Try.func19, Try.ntmps19
        go_wp2_with fail
        refine Hm.out.mono ?_
        rintro e w' ⟨rfl, rfl⟩
        go_wp2
        go_ret
        exact Hn.out
      · have hn0 : noteM x o p t = (noteX x o p t, 0) := by unfold noteM; rw [if_pos hmay, if_neg (by omega)]
        have Hn := Lib.hid hn0
        have hb : 0 ≤ p ∧ p ≤ 4194304 ∧ 0 ≤ t ∧ t ≤ 1099511627776 := by
          simp only [mayM, Bool.and_eq_true, decide_eq_true_eq] at hmay
          omega
        obtain ⟨hp0, hp1, ht0, ht1⟩ := hb
        have hl := h.2.2
        have hg5 := h.2.1
        clear hn0
        obtain ⟨A, c, hv, hc, hm, hr⟩ := hl.sl
        obtain ⟨len, hlen⟩ : ∃ n, x.l.length = n := ⟨_, rfl⟩
        have hlf := hf.len
        have hg0 := hf.gap
        have hfp := hf.place
        rw [hlen] at hv hc hlf
        go_enter Try.func19, Try.ntmps19
        go_wp2_with fail
        refine Hm.out.mono ?_
        rintro e w' ⟨rfl, rfl⟩
        clear hf Hm
        subst hv
        have Hlen := Lib.hid hlen
        have Hl := Lib.hid hl
        have Hg5 := Lib.hid hg5
        clear hlen hl hg5 hmay
        go_upto_region 8 with fail
        go_cut [61] (fun v61 wx => v61 = .bool (addsM x p) ∧ ∃ n, wx = w.drewN n)
        case first =>
          rename_i J K' hJ hK'
          cases len with
          | zero =>
            have hadd : addsM x p = true := by unfold addsM; rw [List.length_eq_zero_iff.1 Hlen.out]; rfl
            go_quiet (fail)
            refine hK' _ _ (Met.intro (hJ _ _ ?_))
            repeat apply Exists.intro
            refine ⟨?rel, rfl⟩
            exact ⟨by rw [hadd], _, rfl⟩
          | succ m =>
            obtain ⟨ad, hA, e1, e2, e3⟩ := hr.ent_at m (by have := Hlen.out; omega)
            subst hA
            have hlp := lastP_at (l := x.l) (by have := Hlen.out; omega)
            have hpl := hfp _ (List.getElem_mem (l := x.l) (n := m) (by have := Hlen.out; omega))
            have hlp : lastP x.l = (x.l[m]'(by have := Hlen.out; omega)).2.1 := by rw [hlp]; congr 3; have := Hlen.out; omega
            have Hadd := Lib.hid (show addsM x p = decide (x.gap ≤ p - (x.l[m]'(by have := Hlen.out; omega)).2.1) by
              unfold addsM
              rw [hlp]
              have : x.l.isEmpty = false := by rw [List.isEmpty_eq_false_iff]; intro h; have := Hlen.out; rw [h] at this; cases this
              rw [this, Bool.false_or])
            clear hlp
            generalize x.l[m]'(by have := Hlen.out; omega) = z at *
            obtain ⟨hz1, hz2⟩ := hpl
            have hq : ((m : Int) + 1 == 0) = false := by simp; omega
            go_quiet (fail)
            refine hK' _ _ (Met.intro (hJ _ _ ?_))
            repeat apply Exists.intro
            refine ⟨?rel2, rfl⟩
            exact ⟨by rw [Hadd.out], _, rfl⟩
        case rest =>
          obtain ⟨rfl, n, rfl⟩ := hcut
          clear hfp
          cases hadd : addsM x p with
          | false =>
            have hnx : ∀ L, L = (if x.late < t then t else x.late) → noteX x o p t = ⟨o, p, L, x.gap, x.l⟩ := by rintro L rfl; unfold noteX; rw [hadd]; rfl
            have Hnx := Lib.hid hnx
            have hh : (w.drewN n).heap[g]? = _ := Hg5.out
            have h2n : (w.drewN n).cell? ⟨g, 2, none⟩ = some (.int .i64 x.late) := h2
            have Hfin := Lib.hid (fun L (hL : L = (if x.late < t then t else x.late)) => note_fin (w := w) (W0 := w.drewN n) (l' := x.l) h.1 Hn.out (hnx L hL) hh ⟨rfl, rfl, rfl, Nat.le_refl _, fun _ _ _ _ => rfl⟩ (Hl.out.move (Nat.le_refl _) fun _ _ => rfl) (.inl rfl))
            clear hnx hadd
            by_cases hlt : x.late < t
            · obtain ⟨p1, p2, p3, p4, p5, p6, p7⟩ := put5 (w.drewN n) g _ _ _ _ _ (.int .i64 o) (.int .i64 p) (.int .i64 t) _ hh
              clear p7 hh
              go_wp2
              go_ret
              exact Hfin.out t (by rw [if_pos hlt])
            · obtain ⟨p1, p2, p3, p4, p5, p6, p7⟩ := put5 (w.drewN n) g _ _ _ _ _ (.int .i64 o) (.int .i64 p) (.int .i64 x.late) _ hh
              clear p7 hh
              go_wp2
              go_ret
              exact Hfin.out x.late (by rw [if_neg (by omega)])
          | true =>
            have hnx : ∀ L, L = (if x.late < t then t else x.late) → noteX x o p t = ⟨o, p, L, x.gap, x.l ++ [(o, p, x.late)]⟩ := by rintro L rfl; unfold noteX; rw [hadd]; rfl
            have Hnx := Lib.hid hnx
            clear hnx hadd
            go_upto_region 9 with fail
            have hln : Lst (w.drewN n) B g (.slice A len c) x.l := Hl.out.move (Nat.le_refl _) fun _ _ => rfl
            have hgs : g < (w.drewN n).heap.size := h.lt
            obtain ⟨r, C, hrs, hgrow, hplan⟩ := plan_lst hln (o, p, x.late) hgs (by rw [Hlen.out]; exact hlf) hB
            have hcW : ∀ W, One r C (w.drewN n) W → W.cell? ⟨g, 2, none⟩ = some (.int .i64 x.late) ∧ W.cell? ⟨g, 4, none⟩ = some (.slice A len c) := fun W hE => by
              have hb := (hgrow W hE).block g hgs (fun e => Hl.out.1 e.symm)
              exact ⟨(World.cell?_of_block hb).trans h2, (World.cell?_of_block hb).trans h4⟩
            have HcW := Lib.hid hcW
            have Hplan := Lib.hid hplan
            clear hcW hplan h0 h1 h2 h3 h4
            refine wp_region_stepsB (One r C) (One.refl r C) (One.trans r C) (One.drew r C) [.eq (.pointer (some ⟨g, 0, none⟩)), .eq (.pointer (some ⟨g, 0, none⟩)), .eq (.pointer (some ⟨g, 4, none⟩)), .eq (.slice A len c), .eq (.int .i64 o), .eq (.int .i64 p), .eq (.pointer (some ⟨g, 0, none⟩)), .eq (.pointer (some ⟨g, 0, none⟩)), .eq (.pointer (some ⟨g, 0, none⟩)), .eq (.pointer (some ⟨g, 2, none⟩)), .eq (.int .i64 x.late), .eq (.agg #[.int .i64 o, .int .i64 p, .int .i64 x.late]), .boxed r C [.int .i64 o, .int .i64 p, .int .i64 x.late] 28 (w.drewN n).heap.size, .app ent 28 B (.slice A len c) (w.drewN n).heap.size r C (x.l ++ [(o, p, x.late)]), .app ent 28 B (.slice A len c) (w.drewN n).heap.size r C (x.l ++ [(o, p, x.late)])] (by kernel_rfl) (by kernel_rfl) (fun j o' hj hd v v' w h => (none_not (by kernel_rfl) hj hd).elim) ?_ ?_
            · refine ⟨?_, ?_, ?_, ?_, ?_, ?_, ?_, ?_, ?_, ?_, ?_, ?_, ?_, ?_, ?_, trivial⟩
              · intro S W K hE hf hd hK
                have f0 : S.tmps.getD 0 undef = .pointer (some ⟨g, 0, none⟩) := hf 0 (by kernel_rfl)
                refine want_free rfl ?_
                rw [Array.getD_eq_getD_getElem?] at f0
                go_simp
                exact hK _ _ (One.refl r C _) (rfl)
              · intro S W K hE hf hd hK
                have d62 : S.tmps.getD 62 undef = (.pointer (some ⟨g, 0, none⟩)) := hd 0 _ rfl (by kernel_rfl)
                refine want_free rfl ?_
                rw [Array.getD_eq_getD_getElem?] at d62
                go_simp
                exact hK _ _ (One.refl r C _) (rfl)
              · intro S W K hE hf hd hK
                have d63 : S.tmps.getD 63 undef = (.pointer (some ⟨g, 0, none⟩)) := hd 1 _ rfl (by kernel_rfl)
                refine want_free rfl ?_
                rw [Array.getD_eq_getD_getElem?] at d63
                go_simp
                exact hK _ _ (One.refl r C _) (rfl)
              · intro S W K hE hf hd hK
                have d64 : S.tmps.getD 64 undef = (.pointer (some ⟨g, 4, none⟩)) := hd 2 _ rfl (by kernel_rfl)
                refine want_free rfl ?_
                rw [Array.getD_eq_getD_getElem?] at d64
                have hc1 := (HcW.out W hE).2
                go_simp
                exact hK _ _ (One.refl _ _ _) rfl
              · intro S W K hE hf hd hK
                have f1 : S.tmps.getD 1 undef = .int .i64 o := hf 1 (by kernel_rfl)
                refine want_free rfl ?_
                rw [Array.getD_eq_getD_getElem?] at f1
                go_simp
                exact hK _ _ (One.refl r C _) (rfl)
              · intro S W K hE hf hd hK
                have f2 : S.tmps.getD 2 undef = .int .i64 p := hf 2 (by kernel_rfl)
                refine want_free rfl ?_
                rw [Array.getD_eq_getD_getElem?] at f2
                go_simp
                exact hK _ _ (One.refl r C _) (rfl)
              · intro S W K hE hf hd hK
                have f0 : S.tmps.getD 0 undef = .pointer (some ⟨g, 0, none⟩) := hf 0 (by kernel_rfl)
                refine want_free rfl ?_
                rw [Array.getD_eq_getD_getElem?] at f0
                go_simp
                exact hK _ _ (One.refl r C _) (rfl)
              · intro S W K hE hf hd hK
                have d68 : S.tmps.getD 68 undef = (.pointer (some ⟨g, 0, none⟩)) := hd 6 _ rfl (by kernel_rfl)
                refine want_free rfl ?_
                rw [Array.getD_eq_getD_getElem?] at d68
                go_simp
                exact hK _ _ (One.refl r C _) (rfl)
              · intro S W K hE hf hd hK
                have d69 : S.tmps.getD 69 undef = (.pointer (some ⟨g, 0, none⟩)) := hd 7 _ rfl (by kernel_rfl)
                refine want_free rfl ?_
                rw [Array.getD_eq_getD_getElem?] at d69
                go_simp
                exact hK _ _ (One.refl r C _) (rfl)
              · intro S W K hE hf hd hK
                have d70 : S.tmps.getD 70 undef = (.pointer (some ⟨g, 0, none⟩)) := hd 8 _ rfl (by kernel_rfl)
                refine want_free rfl ?_
                rw [Array.getD_eq_getD_getElem?] at d70
                go_simp
                exact hK _ _ (One.refl r C _) (rfl)
              · intro S W K hE hf hd hK
                have d71 : S.tmps.getD 71 undef = (.pointer (some ⟨g, 2, none⟩)) := hd 9 _ rfl (by kernel_rfl)
                refine want_free rfl ?_
                rw [Array.getD_eq_getD_getElem?] at d71
                have hc1 := (HcW.out W hE).1
                go_simp
                exact hK _ _ (One.refl _ _ _) rfl
              · intro S W K hE hf hd hK
                have d66 : S.tmps.getD 66 undef = (.int .i64 o) := hd 4 _ rfl (by kernel_rfl)
                have d67 : S.tmps.getD 67 undef = (.int .i64 p) := hd 5 _ rfl (by kernel_rfl)
                have d72 : S.tmps.getD 72 undef = (.int .i64 x.late) := hd 10 _ rfl (by kernel_rfl)
                refine want_free rfl ?_
                rw [Array.getD_eq_getD_getElem?] at d66 d67 d72
                go_simp
                exact hK _ _ (One.refl r C _) (rfl)
              · intro S W K hE hf hd hK
                have d73 : S.tmps.getD 73 undef = (.agg #[.int .i64 o, .int .i64 p, .int .i64 x.late]) := hd 11 _ rfl (by kernel_rfl)
                refine want_free rfl ?_
                rw [Array.getD_eq_getD_getElem?] at d73
                go_simp
                exact hK _ _ (One.of (Nat.lt_of_lt_of_le hrs hE.size) (Ext.alloc _ _)) ⟨W.heap.size, rfl, hE.size, hrs, heap_alloc_new _ _⟩
              · intro S W K hE hf hd hK
                have d65 : S.tmps.getD 65 undef = (.slice A len c) := hd 3 _ rfl (by kernel_rfl)
                have d74 := hd 12 _ rfl (by kernel_rfl)
                refine want_free rfl ?_
                rw [Array.getD_eq_getD_getElem?] at d65
                obtain ⟨b, d74, hb1, _, hb2⟩ := (show ∃ b, S.tmps.getD 74 undef = .slice (some ⟨b, 0, none⟩) 1 1 ∧ (w.drewN n).heap.size ≤ b ∧ r < (w.drewN n).heap.size ∧ W.heap[b]? = some (.cells (entC (o, p, x.late)).toArray 28 (0, 0)) from d74)
                rw [Array.getD_eq_getD_getElem?] at d74
                obtain ⟨v1, W1, hrun, hone, hres⟩ := Hplan.out W 40 b hE hb1 hb2
                refine wp_app (v := .slice A len c) (vx := .slice (some ⟨b, 0, none⟩) 1 1) rfl (by simpa [Act.eval, Array.getD_eq_getD_getElem?] using d65) (by simpa [Act.eval, Array.getD_eq_getD_getElem?] using d74) hrun ?_
                exact hK _ _ hone hres
              · intro S W K hE hf hd hK
                have d75 := hd 13 _ rfl (by kernel_rfl)
                refine want_free rfl ?_
                go_simp
                have q := (show Res ent 28 B (.slice A len c) (w.drewN n).heap.size r C (x.l ++ [(o, p, x.late)]) (S.tmps.getD 75 undef) W from d75)
                rw [Array.getD_eq_getD_getElem?] at q
                exact hK _ _ (One.refl _ _ _) q
            · intro vs W hE hV
              have v0 : vs 0 = (.pointer (some ⟨g, 0, none⟩)) := hV 0 _ rfl
              have v1 : vs 1 = (.pointer (some ⟨g, 0, none⟩)) := hV 1 _ rfl
              have v2 : vs 2 = (.pointer (some ⟨g, 4, none⟩)) := hV 2 _ rfl
              have v3 : vs 3 = (.slice A len c) := hV 3 _ rfl
              have v4 : vs 4 = (.int .i64 o) := hV 4 _ rfl
              have v5 : vs 5 = (.int .i64 p) := hV 5 _ rfl
              have v6 : vs 6 = (.pointer (some ⟨g, 0, none⟩)) := hV 6 _ rfl
              have v7 : vs 7 = (.pointer (some ⟨g, 0, none⟩)) := hV 7 _ rfl
              have v8 : vs 8 = (.pointer (some ⟨g, 0, none⟩)) := hV 8 _ rfl
              have v9 : vs 9 = (.pointer (some ⟨g, 2, none⟩)) := hV 9 _ rfl
              have v10 : vs 10 = (.int .i64 x.late) := hV 10 _ rfl
              have v11 : vs 11 = (.agg #[.int .i64 o, .int .i64 p, .int .i64 x.late]) := hV 11 _ rfl
              have v12 := hV 12 _ rfl
              have v13 := hV 13 _ rfl
              have v14 := hV 14 _ rfl
              clear hV
              set_option maxRecDepth 100000 in simp only [putAll, List.map_cons, List.map_nil, List.length_cons, List.length_nil, Nat.reduceAdd, List.range_succ, List.range_zero, List.nil_append, List.cons_append]
              set_option maxRecDepth 100000 in go_simp
              obtain ⟨hown, _, hvb⟩ := (show Res ent 28 B (.slice A len c) (w.drewN n).heap.size r C (x.l ++ [(o, p, x.late)]) (vs 14) W from v14)
              have hgr := hgrow W hE
              clear v0 v1 v2 v3 v4 v5 v6 v7 v8 v9 v10 v11 v12 v13 v14 HcW Hplan hgrow
              generalize vs 14 = v' at *
              obtain ⟨A2, c2, hv2, _, _⟩ := hown.slice
              generalize (x.l ++ [(o, p, x.late)]).length = n2 at hv2
              have hWg : W.heap[g]? = _ := (hgr.block g hgs (fun e => Hl.out.1 e.symm)).trans Hg5.out
              have hchg : Chg g (Value.slice A len c).ownBlock w W := ⟨hgr.os, hgr.tape, hgr.output, hgr.size, fun k hk _ hne => hgr.block k hk hne⟩
              have hvg : v'.ownBlock ≠ some g := by
                rcases hvb with e | ⟨k, e, hk⟩
                · rw [e]; exact Hl.out.1
                · rw [e]
                  intro e2
                  injection e2 with e2
                  omega
              have h4' := heap_set_eq W g 4 _ _ (0, 0) v' hWg
              have hf4 : W.frozen? ⟨g, 4, none⟩ = false := by simp [World.frozen?, hWg]
              have hc4 : W.cell? ⟨g, 4, none⟩ = some (.slice A len c) := by simp [World.cell?, hWg]
              have hl4 : Lst (W.setCell ⟨g, 4, none⟩ v') B g v' (x.l ++ [(o, p, x.late)]) := ⟨hvg, .inl (hown.set_ne (p := ⟨g, 4, none⟩) (fun k hk e => hvg (by rw [hk, e])) (fun _ h => h.elim))⟩
              have hc42 : (W.setCell ⟨g, 4, none⟩ v').cell? ⟨g, 2, none⟩ = some (.int .i64 x.late) := by simp [World.cell?, h4']
              have Hfin := Lib.hid (fun L (hL : L = (if x.late < t then t else x.late)) => note_fin (w := w) (W0 := W.setCell ⟨g, 4, none⟩ v') (l' := x.l ++ [(o, p, x.late)]) h.1 Hn.out (Hnx.out L hL) h4' (hchg.set_chg 4 v') hl4 hvb)
              by_cases hlt : x.late < t
              · obtain ⟨p1, p2, p3, p4, p5, p6, p7⟩ := put5 (W.setCell ⟨g, 4, none⟩ v') g _ _ _ _ _ (.int .i64 o) (.int .i64 p) (.int .i64 t) _ h4'
                clear p7 h4' hWg hl4 hown
                subst hv2
                go_wp2
                go_ret
                exact Hfin.out t (by rw [if_pos hlt])
              · obtain ⟨p1, p2, p3, p4, p5, p6, p7⟩ := put5 (W.setCell ⟨g, 4, none⟩ v') g _ _ _ _ _ (.int .i64 o) (.int .i64 p) (.int .i64 x.late) _ h4'
                clear p7 h4' hWg hl4 hown
                subst hv2
                go_wp2
                go_ret
                exact Hfin.out x.late (by rw [if_neg (by omega)])
  · have Hn := Lib.hid (NotePost.none h 2 (show noteM x o p t = (x, 2) by unfold noteM; rw [if_neg hmay]))
    have hmay : mayM o p t = false := by simpa using hmay
    rw [hmay] at Hm
    go_enter Try.func19, Try.ntmps19
    go_wp2_with fail
    refine Hm.out.mono ?_
    rintro e w' ⟨rfl, rfl⟩
    go_wp2
    go_ret
    exact Hn.out
end Go.Proofs.Ytklbbpicfhalcaa
