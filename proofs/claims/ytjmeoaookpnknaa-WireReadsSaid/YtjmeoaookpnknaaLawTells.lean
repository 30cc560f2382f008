/- WireTells: the walk of the law. -/
import Derived.Test.YtjmeoaookpnknaaWTold
import Derived.Test.YtjmeoaookpnknaaWItemRow
import Derived.Test.YtjmeoaookpnknaaWAwake
set_option linter.unusedVariables false
set_option linter.unusedSimpArgs false
namespace Go.Proofs.Ytjmeoaookpnknaa
open Go Go.RowKit

theorem info_bs : (Try.prog.info? 23).map (fun i => (i.zero.map (fun z => z.cells.size), i.size, i.bytes)) = some (some (slk kb).sz, (slk kb).sz, 24) := by kernel_rfl
theorem meas_lt {k n : Nat} (h : k < n) : n - (intOf (Value.int .i64 ((k : Int) + 1))).toNat < n - (intOf (Value.int .i64 (k : Int))).toNat := by
  have e1 : intOf (Value.int .i64 ((k : Int) + 1)) = (k : Int) + 1 := rfl
  have e2 : intOf (Value.int .i64 (k : Int)) = (k : Int) := rfl
  rw [e1, e2]
  omega
theorem tellM_len (x : ItM) (hok : ItOk x) (hi : ∀ a ∈ x.i, -9223372036854775808 ≤ a ∧ a ≤ 9223372036854775807) (h : Short x) : (tellM x).length ≤ 4000 := by
  have hl := h.l.1
  have hi2 := h.i
  unfold tellM
  split
  · have := (encN_len _ hok.u).2; omega
  · split
    · have := (encN_len _ (zig_lt hok.n)).2; omega
    · split
      · have := encT_len x.s h.s; omega
      · split
        · simp
        · split
          · have h1 := flat_le encT 310 x.l (fun s hs => encT_len s (by have := h.l.2 s hs; omega))
            have h2 := (encN_len x.l.length (by omega)).2
            unfold encTs
            rw [List.length_append]
            omega
          · split
            · have h1 := flat_le (fun i => encN (zig i)) 10 x.i (fun i hx => (encN_len _ (zig_lt (hi i hx))).2)
              have h2 := (encN_len x.i.length (by omega)).2
              unfold encIs
              rw [List.length_append]
              omega
            · simp
theorem ItAt.wf {w : World} {B : Nat} {x : ItM} {Al Ai : Option Addr} {cl ci : Nat} (h : ItAt w B x Al cl Ai ci) : ∀ a ∈ x.i, -9223372036854775808 ≤ a ∧ a ≤ 9223372036854775807 := by
  intro a ha
  obtain ⟨k, hk, rfl⟩ := List.mem_iff_getElem.1 ha
  obtain ⟨_, _, _, hwf⟩ := h.i.num_at' k hk
  exact i64_of_wf hwf
/-- Blocks from B on that are neither of two rows'. -/
def FF (B : Nat) (v u : Value) (j : Nat) : Prop := B ≤ j ∧ some j ≠ v.ownBlock ∧ some j ≠ u.ownBlock
/-- No block in common. -/
def Far (v u : Value) : Prop := ∀ j, v.ownBlock = some j → u.ownBlock ≠ some j
/-- What the walk's end asks of the two rows. -/
theorem tells_end {w wr : World} {B : Nat} {F : Nat → Prop} {v u : Value} {ls : List (List UInt8)} {fl : List UInt8} (ho : Own kb 5 wr B (fun _ => False) v fl) (hp : Own (slk kb) 23 wr B F u ls) (hf : fl = ls.flatten) (hl : fl.length ≤ 70368744177664) :
    ∃ A3 c3 A4 c4, v = .slice A3 fl.length c3 ∧ u = .slice A4 ls.length c4 ∧ Hid (∀ W, Ext wr W → Calls Try.prog 14 #[.slice A4 ls.length c4] W (ToldPost W fl)) ∧
      Hid (∀ W, Ext wr W → (convert 23 9 (.slice A3 fl.length c3)).run Try.prog W = .ok (.string ⟨fl.toArray⟩) W) := by
  subst hf
  have hle := hp.le
  have hat := fun j (hj : u.ownBlock = some j) => hp.at hj
  obtain ⟨A3, c3, e3, _, _, hr3⟩ := ho.bound.sl
  have hat3 := fun j (hj : v.ownBlock = some j) => ho.at hj
  obtain ⟨A4, c4, e4, _, _, hr4⟩ := hp.bound.sl
  refine ⟨A3, c3, A4, c4, e3, e4, Lib.hid fun W hE => Join_calls A4 c4 ls (fun k => k < wr.heap.size) W hle hl (fun k hk => Nat.lt_of_lt_of_le hk hE.size) ?_, Lib.hid fun W hE => ?_⟩
  · have h4 : ∀ k, ((F k ∧ k < wr.heap.size) ∨ u.ownBlock = some k) → k < wr.heap.size := fun k hk => hk.elim (fun h => h.2) (fun h => (hat k h).2)
    exact (hr4.mono h4).move fun k hk => hE.block k hk
  · have h3 : ∀ k, (((fun _ => False) k ∧ k < wr.heap.size) ∨ v.ownBlock = some k) → k < wr.heap.size := fun k hk => hk.elim (fun h => h.2) (fun h => (hat3 k h).2)
    have hr := (hr3.mono h3).move fun k hk => hE.block k hk
    exact conv_str (hr) 23 9 5 c3 Try.underlying23 Try.underlying5 Try.underlying9
set_option maxRecDepth 100000 in
set_option maxHeartbeats 8000000 in
theorem WireTells_calls (A : Option Addr) (c : Nat) (L : List (Int × Int × Int × Int × ByteArray × Bool × List ByteArray × List Int)) (w : World) (hn : L.length ≤ maxLen) (hr : Row itK w (fun k => k < w.heap.size) A L) :
    Calls Try.prog 4 #[.slice A L.length c] w fun e w' => e = .returned (.bool true) ∧ Below w.heap.size w w' := by
  have hn63 : L.length ≤ 9223372036854775807 := by unfold maxLen at hn; omega
  clear hn
  go_enter Try.func4, Try.ntmps4
  go_wp2_with fail
  go_loopw [3, 4, 12] (fun v u i w' => ∃ (k : Nat) (ls : List (List UInt8)) (fl : List UInt8), k ≤ L.length ∧ k ≤ 40 ∧ i = .int .i64 k ∧ ls.length ≤ k ∧ Hid (fl = ls.flatten) ∧ fl.length ≤ 4000 * k ∧ Own kb 5 w' w.heap.size (fun _ => False) v fl ∧ Own (slk kb) 23 w' w.heap.size (FF w.heap.size v u) u ls ∧ Hid (Far v u) ∧ Below w.heap.size w w') (fun _ _ i _ => L.length - (intOf i).toNat)
  case atStart => exact ⟨0, [], [], by omega, by omega, rfl, by decide, Lib.hid rfl, by decide, Own.nil _ _ _ _ _, Own.nil _ _ _ _ _, Lib.hid (fun j hj => by cases hj), Below.refl _ _⟩
  case round =>
    obtain ⟨k, ls, fl, hk, hk40, rfl, hls, Hfl, hfl, ho, hp, Hd, hE⟩ := hrel
    have hsz := hE.size
    by_cases hlt : k < L.length
    · obtain ⟨ad, Al, cl, Ai, ci, hA1, hss, hit, hc0, hcs⟩ := it_at (hr.belowF (fun _ h => h) hE) (fun _ h => h) k hlt
      subst hA1
      generalize ofT L[k] = x at *
      have hc1 := hcs 1 (.int .u64 x.u) (by decide) rfl
      have hc2 := hcs 2 (.int .i64 x.n) (by decide) rfl
      have hc3 := hcs 3 (.int .i64 x.m) (by decide) rfl
      have hc4 := hcs 4 (.string x.s) (by decide) rfl
      have hc5 := hcs 5 (.bool x.on) (by decide) rfl
      have hc6 := hcs 6 (.slice Al x.l.length cl) (by decide) rfl
      have hc7 := hcs 7 (.slice Ai x.i.length ci) (by decide) rfl
      clear hcs
      by_cases h40 : k < 40
      · have Hit := Lib.hid (And.intro hit hss)
        clear hit hss
        obtain ⟨A3, c3, e3, _, _⟩ := ho.slice
        obtain ⟨A4, c4, e4, _, _⟩ := hp.slice
        have hat3 := fun j (hj : u3.ownBlock = some j) => (ho.at hj)
        have hat4 := fun j (hj : u4.ownBlock = some j) => (hp.at hj)
        subst e3
        subst e4
        have Hown := Lib.hid (And.intro ho (And.intro hp (And.intro hat3 hat4)))
        clear ho hp hat3 hat4
        have hE1 := Ext.trans _ _ _ hE (Ext.alloc wr (.cells (itC x Al cl Ai ci) 33))
        have hs1 := (Ext.alloc wr (.cells (itC x Al cl Ai ci) 33)).size
        have Hcut := Lib.hid (cut_calls (wr.alloc (.cells (itC x Al cl Ai ci) 33)) x Al cl Ai ci ((Hit.out.1.below ((Ext.alloc wr (.cells (itC x Al cl Ai ci) 33)).mono hsz)).up hE1.size) Hit.out.2)
        have Hw1 := Lib.hid (show Below wr.heap.size wr (wr.alloc (.cells (itC x Al cl Ai ci) 33)) from Ext.alloc _ _)
        unfold itC at *
        clear hE1
        go_wp2_with fail
        refine Hcut.out.mono ?_
        rintro e w2 ⟨y, Bl, dl, Bi, di, rfl, hity, hsh, hE2⟩
        have Htold := Lib.hid (told_calls w2 y Bl dl Bi di hity hsh)
        have hlen := tellM_len y hity.ok hity.wf hsh
        have hEr2 := Below.trans Hw1.out (Below.mono hE2 hs1)
        have hs2 := hEr2.size
        unfold itC at *
        clear hity hsh Hcut Hit hc0 hc1 hc2 hc3 hc4 hc5 hc6 hc7
        go_wp2_with fail
        refine Htold.out.mono ?_
        rintro e w3 ⟨va, vb, rfl, hra, hrb, hE3⟩
        have hEr3 := Below.trans hEr2 (Below.mono hE3 hs2)
        have hEw3 := Below.trans hE (Below.mono hEr3 hsz)
        have hs3 := hEr3.size
        cases htb : toldB y with
        | false =>
          rw [htb] at *
          go_wp2_with fail
          exact ⟨⟨k + 1, ls, fl, hlt, by omega, by rw [Int.natCast_succ], by omega, Hfl, by omega, Hown.out.1.below hEr3, Hown.out.2.1.below hEr3, Hd, hEw3⟩, meas_lt hlt⟩
        | true =>
          rw [htb] at *
          generalize tellM y = t at *
          obtain ⟨A7, c7, e7, k7, m7, hr7⟩ := hra
          obtain ⟨A8, c8, e8, k8, m8, hr8⟩ := hrb
          subst e7
          subst e8
          have hcv7 := conv_str (hr7) 23 9 5 c7 Try.underlying23 Try.underlying5 Try.underlying9
          have hcv8 := conv_str (hr8) 23 9 5 c8 Try.underlying23 Try.underlying5 Try.underlying9
          have ho3 := Hown.out.1.below hEr3
          have hp3 := Hown.out.2.1.below hEr3
          have Hsl8 := Lib.hid (show Sl kb w3 _ (.slice A8 t.length c8) t from ⟨A8, c8, rfl, k8, m8, hr8⟩)
          have hflen : (fl ++ t).length ≤ 4000 * (k + 1) := by rw [List.length_append]; omega
          clear Htold
          go_upto_region 12 with (at_builtin; go_must (refine app_flat kb flat_kb w.heap.size rfl (.tmp 33) (.tmp 34) 23 5 1 rfl Try.underlying23 info_u8 (.slice A3 fl.length c3) (.slice A8 t.length c8) fl t (fun _ => False) _ rfl rfl ho3 Hsl8.out (by omega) (by simp only [maxLen]; omega) (by omega) ?_; intro v4 w4 ho4 hg4 ha4))
          have hE4 := hEw3.grown hg4 hEw3.size (fun j hj => (ho3.at hj).1)
          have hat3 := Hown.out.2.2.1
          have hat4 := Hown.out.2.2.2
          have hB4 := hE4.size
          have hs4 := hg4.size
          have hv4 : ∀ j, v4.ownBlock = some j → (Value.slice A3 fl.length c3).ownBlock = some j ∨ j = w3.heap.size := fun j hj => by
            rcases ha4 with e | e
            · exact .inl (e ▸ hj)
            · rw [e] at hj
              injection hj with hj
              exact .inr hj.symm
          have Hd4 := Lib.hid (show Far v4 (.slice A4 ls.length c4) from fun j h h6 => by
            rcases hv4 j h with h5 | h5
            · exact Hd.out j h5 h6
            · have := (hat4 j h6).2
              omega)
          have hp4 : Own (slk kb) 23 w4 w.heap.size (fun j => w.heap.size ≤ j ∧ some j ≠ v4.ownBlock ∧ some j ≠ (Value.slice A4 ls.length c4).ownBlock ∧ j < w4.heap.size) (.slice A4 ls.length c4) ls := by
            refine (hp3.bound.grown hg4 ?_ (fun j hj => hj.1.2.1)).mono fun j hj => ⟨hj.1.1, fun e => ?_, hj.1.2.2, by omega⟩
            · cases h8 : (Value.slice A4 ls.length c4).ownBlock with
              | none => exact .inl rfl
              | some j => exact .inr fun h => Hd.out j h.symm h8
            · rcases hv4 j e.symm with h5 | h5
              · exact hj.1.2.1 h5.symm
              · have := hj.2
                omega
          have hr7b : Sl kb w4 (fun j => w.heap.size ≤ j ∧ some j ≠ v4.ownBlock ∧ some j ≠ (Value.slice A4 ls.length c4).ownBlock ∧ j < w4.heap.size) (.slice A7 t.length c7) t := by
            refine ⟨A7, c7, rfl, k7, m7, (hr7.move fun j hj => hg4.block j hj.2 (fun e => by have := hat3 j e.symm; omega)).mono fun j hj => ⟨by omega, fun e => ?_, fun e => by have := hat4 j e.symm; omega, by omega⟩⟩
            rcases hv4 j e.symm with h5 | h5
            · have := hat3 j h5
              omega
            · omega
          obtain ⟨A5, c5, e5, _, _⟩ := ho4.slice
          subst e5
          have Ho4 := Lib.hid (And.intro ho4 (And.intro hp4 (And.intro hr7b (And.intro hE4 hv4))))
          have hfl2 := hflen
          have Hfl2 := Lib.hid (show fl ++ t = (ls ++ [t]).flatten by rw [List.flatten_append, Hfl.out]; simp)
          generalize fl ++ t = fl2 at *
          have hat5 := fun j (hj : (Value.slice A5 fl2.length c5).ownBlock = some j) => ho4.at hj
          have Hat5 := Lib.hid hat5
          clear hat5 ho4 hp4 hr7b hE4 hv4 hg4 ha4 ho3 hp3 hr7 hr8 hcv7 hcv8 hEw3 hEr3 hE3 hEr2 hE2 hE hlen hflen
          go_wp2_with (at_builtin; go_must (refine app_one1 (slk kb) rfl w.heap.size (fun j => w.heap.size ≤ j ∧ some j ≠ (Value.slice A5 fl2.length c5).ownBlock ∧ some j ≠ (Value.slice A4 ls.length c4).ownBlock ∧ j < w4.heap.size) rfl (.tmp 36) (.tmp 38) 29 23 24 rfl Try.underlying29 info_bs (.slice A4 ls.length c4) ls t w4.heap.size (.slice A7 t.length c7) rfl rfl (Ho4.out.2.1.alloc _) (cell_new0 _ _ _) ⟨_, rfl, Ho4.out.2.2.1.alloc _⟩ (fun j hj _ => hj.2.2.1) (by omega) (by simp only [maxLen]; omega) (by simp; omega) ?_; intro v6 w6 ho6 hg6 ha6))
          have hsa : w4.heap.size ≤ (w4.alloc (.cells #[.slice A7 t.length c7] 23)).heap.size := (Ext.alloc _ _).size
          have hne6 : ∀ j, j < w4.heap.size → some j ≠ (Value.slice A4 ls.length c4).ownBlock → some j ≠ v6.ownBlock := fun j hj h4 h => by
            rcases ha6 with e | e
            · exact h4 (h.trans e)
            · rw [e] at h
              injection h with h
              omega
          have hd56 : (Value.slice A5 fl2.length c5).ownBlock = none ∨ (Value.slice A5 fl2.length c5).ownBlock ≠ (Value.slice A4 ls.length c4).ownBlock := by
            cases h8 : (Value.slice A5 fl2.length c5).ownBlock with
            | none => exact .inl rfl
            | some j => exact .inr fun h => Hd4.out j h8 h.symm
          refine ⟨⟨k + 1, ls ++ [t], fl2, hlt, by omega, by rw [Int.natCast_succ], by rw [List.length_append, List.length_singleton]; omega, Hfl2, hfl2, (Ho4.out.1.alloc _).grown hg6 hd56 (fun _ h => h.elim), ho6.mono fun j hj => ⟨hj.1, hj.2.1, hne6 j hj.2.2.2 hj.2.2.1⟩, Lib.hid fun j h5 h6 => ?far, (Ho4.out.2.2.2.1.alloc hB4 _).grown hg6 (Nat.le_trans hB4 hsa) (fun j hj => (hat4 j hj).1)⟩, meas_lt hlt⟩
          rcases ha6 with e | e
          · exact Hd4.out j h5 (e ▸ h6)
          · rw [e] at h6
            injection h6 with h6
            have := (Hat5.out j h5).2
            omega
      · have h40' : (40 : Int) ≤ (k : Int) := by omega
        have Haw := Lib.hid (fun W => awake_calls W)
        have hEr := hE
        obtain ⟨A3, c3, A4, c4, e3, e4, Hj, Hcv⟩ := tells_end (w := w) ho hp Hfl.out (by omega)
        subst e3
        subst e4
        clear ho hp Hfl Hd
        generalize fl.length = n3 at *
        generalize ls.length = n4 at *
        go_wp2_with fail
        refine wp_region_steps [.eq (.slice A4 n4 c4), .own 0 fl, .eq (.string ⟨fl.toArray⟩), .eq (.slice A3 n3 c3), .eq (.string ⟨fl.toArray⟩), .eq (.bool true), .eq (.bool true), .own 0 ([] : List UInt8), .eq (.int .i64 0), .eq (.bool true), .eq (.bool true), .eq (.bool true), .eq (.bool true), .eq (.bool true), .eq (.bool true)] (by kernel_rfl) (by kernel_rfl) (all_dst (by kernel_rfl)) ?_ ?_
        · refine ⟨?_, ?_, ?_, ?_, ?_, ?_, ?_, ?_, ?_, ?_, ?_, ?_, ?_, ?_, ?_, trivial⟩
          · intro S W K hE hf hd hK
            have f4 : S.tmps.getD 4 undef = .slice A4 n4 c4 := hf 4 (by kernel_rfl)
            refine want_free rfl ?_
            rw [Array.getD_eq_getD_getElem?] at f4
            go_simp
            exact hK _ _ (Ext.refl _) (fun _ => rfl)
          · intro S W K hE hf hd hK
            have d41 : S.tmps.getD 41 undef = (.slice A4 n4 c4) := hd 0 _ rfl (by kernel_rfl)
            refine want_free rfl ?_
            rw [Array.getD_eq_getD_getElem?] at d41
            go_simp
            refine (Hj.out W (Ext.trans _ _ _ (Ext.alloc _ _) hE)).mono ?_
            rintro e W' ⟨v, rfl, ho, hb⟩
            exact hK _ _ hb (fun _ => (Rd.of (F := fun _ => False) ho).lower (Nat.zero_le _))
          · intro S W K hE hf hd hK
            have d42 := hd 1 _ rfl (by kernel_rfl)
            refine want_free rfl ?_
            obtain ⟨A, c, e, h1, h2, hr⟩ := (show Rd W 0 (S.tmps.getD 42 undef) fl from d42)
            rw [Array.getD_eq_getD_getElem?] at e
            have hcv := conv_str (hr) 23 9 5 c Try.underlying23 Try.underlying5 Try.underlying9
            go_simp
            exact hK _ _ (Ext.refl _) (fun _ => rfl)
          · intro S W K hE hf hd hK
            have f3 : S.tmps.getD 3 undef = .slice A3 n3 c3 := hf 3 (by kernel_rfl)
            refine want_free rfl ?_
            rw [Array.getD_eq_getD_getElem?] at f3
            go_simp
            exact hK _ _ (Ext.refl _) (fun _ => rfl)
          · intro S W K hE hf hd hK
            have d44 : S.tmps.getD 44 undef = (.slice A3 n3 c3) := hd 3 _ rfl (by kernel_rfl)
            refine want_free rfl ?_
            rw [Array.getD_eq_getD_getElem?] at d44
            have hcv := Hcv.out W (Ext.trans _ _ _ (Ext.alloc _ _) hE)
            go_simp
            exact hK _ _ (Ext.refl _) (fun _ => rfl)
          · intro S W K hE hf hd hK
            have d43 : S.tmps.getD 43 undef = (.string ⟨fl.toArray⟩) := hd 2 _ rfl (by kernel_rfl)
            have d45 : S.tmps.getD 45 undef = (.string ⟨fl.toArray⟩) := hd 4 _ rfl (by kernel_rfl)
            refine want_free rfl ?_
            rw [Array.getD_eq_getD_getElem?] at d43 d45
            go_simp
            exact hK _ _ (Ext.refl _) (fun _ => by first | rfl | simp)
          · intro S W K hE hf hd hK
            have d46 : S.tmps.getD 46 undef = (.bool true) := hd 5 _ rfl (by kernel_rfl)
            refine want_free rfl ?_
            rw [Array.getD_eq_getD_getElem?] at d46
            go_simp
            exact hK _ _ (Ext.refl _) (fun _ => rfl)
          · intro S W K hE hf hd hK
            have d47 : S.tmps.getD 47 undef = (.bool true) := hd 6 _ rfl (by kernel_rfl)
            refine want_then (t := 47) d47 rfl rfl rfl ?_
            rw [Array.getD_eq_getD_getElem?] at d47
            go_simp
            refine (Join_calls none 0 [] (fun _ => False) W (by decide) (by decide) (fun _ h => h.elim) (Row.nil _ _ _ _)).mono ?_
            rintro e W' ⟨v, rfl, ho, hb⟩
            exact hK _ _ hb (fun _ => (Rd.of (F := fun _ => False) ho).lower (Nat.zero_le _))
          · intro S W K hE hf hd hK
            have d48 := hd 7 _ rfl (by kernel_rfl)
            have d47 : S.tmps.getD 47 undef = (.bool true) := hd 6 _ rfl (by kernel_rfl)
            refine want_then (t := 47) d47 rfl rfl rfl ?_
            rw [Array.getD_eq_getD_getElem?] at d47
            obtain ⟨A, c, e, h1, h2, hr⟩ := (show Rd W 0 (S.tmps.getD 48 undef) [] from d48)
            rw [Array.getD_eq_getD_getElem?] at e
            go_simp
            exact hK _ _ (Ext.refl _) (fun _ => rfl)
          · intro S W K hE hf hd hK
            have d49 : S.tmps.getD 49 undef = (.int .i64 0) := hd 8 _ rfl (by kernel_rfl)
            have d47 : S.tmps.getD 47 undef = (.bool true) := hd 6 _ rfl (by kernel_rfl)
            refine want_then (t := 47) d47 rfl rfl rfl ?_
            rw [Array.getD_eq_getD_getElem?] at d49 d47
            go_simp
            exact hK _ _ (Ext.refl _) (fun _ => by first | rfl | simp)
          · intro S W K hE hf hd hK
            have d47 : S.tmps.getD 47 undef = (.bool true) := hd 6 _ rfl (by kernel_rfl)
            have d50 : S.tmps.getD 50 undef = (.bool true) := hd 9 _ rfl (by kernel_rfl)
            refine want_free rfl ?_
            rw [Array.getD_eq_getD_getElem?] at d47 d50
            go_simp
            exact hK _ _ (Ext.refl _) (fun _ => rfl)
          · intro S W K hE hf hd hK
            have d51 : S.tmps.getD 51 undef = (.bool true) := hd 10 _ rfl (by kernel_rfl)
            refine want_free rfl ?_
            rw [Array.getD_eq_getD_getElem?] at d51
            go_simp
            exact hK _ _ (Ext.refl _) (fun _ => rfl)
          · intro S W K hE hf hd hK
            have d52 : S.tmps.getD 52 undef = (.bool true) := hd 11 _ rfl (by kernel_rfl)
            refine want_then (t := 52) d52 rfl rfl rfl ?_
            rw [Array.getD_eq_getD_getElem?] at d52
            go_simp
            refine (Haw.out W).mono ?_
            rintro e W' ⟨rfl, hb⟩
            exact hK _ _ hb (fun _ => rfl)
          · intro S W K hE hf hd hK
            have d52 : S.tmps.getD 52 undef = (.bool true) := hd 11 _ rfl (by kernel_rfl)
            have d53 : S.tmps.getD 53 undef = (.bool true) := hd 12 _ rfl (by kernel_rfl)
            refine want_free rfl ?_
            rw [Array.getD_eq_getD_getElem?] at d52 d53
            go_simp
            exact hK _ _ (Ext.refl _) (fun _ => rfl)
          · intro S W K hE hf hd hK
            have d54 : S.tmps.getD 54 undef = (.bool true) := hd 13 _ rfl (by kernel_rfl)
            refine want_free rfl ?_
            rw [Array.getD_eq_getD_getElem?] at d54
            go_simp
            exact hK _ _ (Ext.refl _) (fun _ => rfl)
        · intro vs W hE hV
          have v0 : vs 0 = (.slice A4 n4 c4) := hV 0 _ rfl (fun h => by cases h)
          have v1 := hV 1 _ rfl (fun h => by cases h)
          have v2 : vs 2 = (.string ⟨fl.toArray⟩) := hV 2 _ rfl (fun h => by cases h)
          have v3 : vs 3 = (.slice A3 n3 c3) := hV 3 _ rfl (fun h => by cases h)
          have v4 : vs 4 = (.string ⟨fl.toArray⟩) := hV 4 _ rfl (fun h => by cases h)
          have v5 : vs 5 = (.bool true) := hV 5 _ rfl (fun h => by cases h)
          have v6 : vs 6 = (.bool true) := hV 6 _ rfl (fun h => by cases h)
          have v7 := hV 7 _ rfl (fun h => by cases h)
          have v8 : vs 8 = (.int .i64 0) := hV 8 _ rfl (fun h => by cases h)
          have v9 : vs 9 = (.bool true) := hV 9 _ rfl (fun h => by cases h)
          have v10 : vs 10 = (.bool true) := hV 10 _ rfl (fun h => by cases h)
          have v11 : vs 11 = (.bool true) := hV 11 _ rfl (fun h => by cases h)
          have v12 : vs 12 = (.bool true) := hV 12 _ rfl (fun h => by cases h)
          have v13 : vs 13 = (.bool true) := hV 13 _ rfl (fun h => by cases h)
          have v14 : vs 14 = (.bool true) := hV 14 _ rfl (fun h => by cases h)
          clear hV
          set_option maxRecDepth 100000 in simp only [putAll, List.map_cons, List.map_nil, List.length_cons, List.length_nil, Nat.reduceAdd, List.range_succ, List.range_zero, List.nil_append, List.cons_append]
          set_option maxRecDepth 100000 in go_simp
          have hEf := Below.trans hEr (Below.mono (Ext.trans _ _ _ (Ext.alloc _ _) hE) hsz)
          go_wp2
          go_ret
          exact ⟨rfl, hEf⟩
    · have hkn : ¬ (k : Int) < (L.length : Int) := by omega
      have Haw := Lib.hid (fun W => awake_calls W)
      have hEr := hE
      obtain ⟨A3, c3, A4, c4, e3, e4, Hj, Hcv⟩ := tells_end (w := w) ho hp Hfl.out (by omega)
      subst e3
      subst e4
      clear ho hp Hfl Hd
      generalize fl.length = n3 at *
      generalize ls.length = n4 at *
      go_wp2_with fail
      refine wp_region_steps [.eq (.slice A4 n4 c4), .own 0 fl, .eq (.string ⟨fl.toArray⟩), .eq (.slice A3 n3 c3), .eq (.string ⟨fl.toArray⟩), .eq (.bool true), .eq (.bool true), .own 0 ([] : List UInt8), .eq (.int .i64 0), .eq (.bool true), .eq (.bool true), .eq (.bool true), .eq (.bool true), .eq (.bool true), .eq (.bool true)] (by kernel_rfl) (by kernel_rfl) (all_dst (by kernel_rfl)) ?_ ?_
      · refine ⟨?_, ?_, ?_, ?_, ?_, ?_, ?_, ?_, ?_, ?_, ?_, ?_, ?_, ?_, ?_, trivial⟩
        · intro S W K hE hf hd hK
          have f4 : S.tmps.getD 4 undef = .slice A4 n4 c4 := hf 4 (by kernel_rfl)
          refine want_free rfl ?_
          rw [Array.getD_eq_getD_getElem?] at f4
          go_simp
          exact hK _ _ (Ext.refl _) (fun _ => rfl)
        · intro S W K hE hf hd hK
          have d41 : S.tmps.getD 41 undef = (.slice A4 n4 c4) := hd 0 _ rfl (by kernel_rfl)
          refine want_free rfl ?_
          rw [Array.getD_eq_getD_getElem?] at d41
          go_simp
          refine (Hj.out W (Ext.trans _ _ _ (Ext.refl _) hE)).mono ?_
          rintro e W' ⟨v, rfl, ho, hb⟩
          exact hK _ _ hb (fun _ => (Rd.of (F := fun _ => False) ho).lower (Nat.zero_le _))
        · intro S W K hE hf hd hK
          have d42 := hd 1 _ rfl (by kernel_rfl)
          refine want_free rfl ?_
          obtain ⟨A, c, e, h1, h2, hr⟩ := (show Rd W 0 (S.tmps.getD 42 undef) fl from d42)
          rw [Array.getD_eq_getD_getElem?] at e
          have hcv := conv_str (hr) 23 9 5 c Try.underlying23 Try.underlying5 Try.underlying9
          go_simp
          exact hK _ _ (Ext.refl _) (fun _ => rfl)
        · intro S W K hE hf hd hK
          have f3 : S.tmps.getD 3 undef = .slice A3 n3 c3 := hf 3 (by kernel_rfl)
          refine want_free rfl ?_
          rw [Array.getD_eq_getD_getElem?] at f3
          go_simp
          exact hK _ _ (Ext.refl _) (fun _ => rfl)
        · intro S W K hE hf hd hK
          have d44 : S.tmps.getD 44 undef = (.slice A3 n3 c3) := hd 3 _ rfl (by kernel_rfl)
          refine want_free rfl ?_
          rw [Array.getD_eq_getD_getElem?] at d44
          have hcv := Hcv.out W (Ext.trans _ _ _ (Ext.refl _) hE)
          go_simp
          exact hK _ _ (Ext.refl _) (fun _ => rfl)
        · intro S W K hE hf hd hK
          have d43 : S.tmps.getD 43 undef = (.string ⟨fl.toArray⟩) := hd 2 _ rfl (by kernel_rfl)
          have d45 : S.tmps.getD 45 undef = (.string ⟨fl.toArray⟩) := hd 4 _ rfl (by kernel_rfl)
          refine want_free rfl ?_
          rw [Array.getD_eq_getD_getElem?] at d43 d45
          go_simp
          exact hK _ _ (Ext.refl _) (fun _ => by first | rfl | simp)
        · intro S W K hE hf hd hK
          have d46 : S.tmps.getD 46 undef = (.bool true) := hd 5 _ rfl (by kernel_rfl)
          refine want_free rfl ?_
          rw [Array.getD_eq_getD_getElem?] at d46
          go_simp
          exact hK _ _ (Ext.refl _) (fun _ => rfl)
        · intro S W K hE hf hd hK
          have d47 : S.tmps.getD 47 undef = (.bool true) := hd 6 _ rfl (by kernel_rfl)
          refine want_then (t := 47) d47 rfl rfl rfl ?_
          rw [Array.getD_eq_getD_getElem?] at d47
          go_simp
          refine (Join_calls none 0 [] (fun _ => False) W (by decide) (by decide) (fun _ h => h.elim) (Row.nil _ _ _ _)).mono ?_
          rintro e W' ⟨v, rfl, ho, hb⟩
          exact hK _ _ hb (fun _ => (Rd.of (F := fun _ => False) ho).lower (Nat.zero_le _))
        · intro S W K hE hf hd hK
          have d48 := hd 7 _ rfl (by kernel_rfl)
          have d47 : S.tmps.getD 47 undef = (.bool true) := hd 6 _ rfl (by kernel_rfl)
          refine want_then (t := 47) d47 rfl rfl rfl ?_
          rw [Array.getD_eq_getD_getElem?] at d47
          obtain ⟨A, c, e, h1, h2, hr⟩ := (show Rd W 0 (S.tmps.getD 48 undef) [] from d48)
          rw [Array.getD_eq_getD_getElem?] at e
          go_simp
          exact hK _ _ (Ext.refl _) (fun _ => rfl)
        · intro S W K hE hf hd hK
          have d49 : S.tmps.getD 49 undef = (.int .i64 0) := hd 8 _ rfl (by kernel_rfl)
          have d47 : S.tmps.getD 47 undef = (.bool true) := hd 6 _ rfl (by kernel_rfl)
          refine want_then (t := 47) d47 rfl rfl rfl ?_
          rw [Array.getD_eq_getD_getElem?] at d49 d47
          go_simp
          exact hK _ _ (Ext.refl _) (fun _ => by first | rfl | simp)
        · intro S W K hE hf hd hK
          have d47 : S.tmps.getD 47 undef = (.bool true) := hd 6 _ rfl (by kernel_rfl)
          have d50 : S.tmps.getD 50 undef = (.bool true) := hd 9 _ rfl (by kernel_rfl)
          refine want_free rfl ?_
          rw [Array.getD_eq_getD_getElem?] at d47 d50
          go_simp
          exact hK _ _ (Ext.refl _) (fun _ => rfl)
        · intro S W K hE hf hd hK
          have d51 : S.tmps.getD 51 undef = (.bool true) := hd 10 _ rfl (by kernel_rfl)
          refine want_free rfl ?_
          rw [Array.getD_eq_getD_getElem?] at d51
          go_simp
          exact hK _ _ (Ext.refl _) (fun _ => rfl)
        · intro S W K hE hf hd hK
          have d52 : S.tmps.getD 52 undef = (.bool true) := hd 11 _ rfl (by kernel_rfl)
          refine want_then (t := 52) d52 rfl rfl rfl ?_
          rw [Array.getD_eq_getD_getElem?] at d52
          go_simp
          refine (Haw.out W).mono ?_
          rintro e W' ⟨rfl, hb⟩
          exact hK _ _ hb (fun _ => rfl)
        · intro S W K hE hf hd hK
          have d52 : S.tmps.getD 52 undef = (.bool true) := hd 11 _ rfl (by kernel_rfl)
          have d53 : S.tmps.getD 53 undef = (.bool true) := hd 12 _ rfl (by kernel_rfl)
          refine want_free rfl ?_
          rw [Array.getD_eq_getD_getElem?] at d52 d53
          go_simp
          exact hK _ _ (Ext.refl _) (fun _ => rfl)
        · intro S W K hE hf hd hK
          have d54 : S.tmps.getD 54 undef = (.bool true) := hd 13 _ rfl (by kernel_rfl)
          refine want_free rfl ?_
          rw [Array.getD_eq_getD_getElem?] at d54
          go_simp
          exact hK _ _ (Ext.refl _) (fun _ => rfl)
      · intro vs W hE hV
        have v0 : vs 0 = (.slice A4 n4 c4) := hV 0 _ rfl (fun h => by cases h)
        have v1 := hV 1 _ rfl (fun h => by cases h)
        have v2 : vs 2 = (.string ⟨fl.toArray⟩) := hV 2 _ rfl (fun h => by cases h)
        have v3 : vs 3 = (.slice A3 n3 c3) := hV 3 _ rfl (fun h => by cases h)
        have v4 : vs 4 = (.string ⟨fl.toArray⟩) := hV 4 _ rfl (fun h => by cases h)
        have v5 : vs 5 = (.bool true) := hV 5 _ rfl (fun h => by cases h)
        have v6 : vs 6 = (.bool true) := hV 6 _ rfl (fun h => by cases h)
        have v7 := hV 7 _ rfl (fun h => by cases h)
        have v8 : vs 8 = (.int .i64 0) := hV 8 _ rfl (fun h => by cases h)
        have v9 : vs 9 = (.bool true) := hV 9 _ rfl (fun h => by cases h)
        have v10 : vs 10 = (.bool true) := hV 10 _ rfl (fun h => by cases h)
        have v11 : vs 11 = (.bool true) := hV 11 _ rfl (fun h => by cases h)
        have v12 : vs 12 = (.bool true) := hV 12 _ rfl (fun h => by cases h)
        have v13 : vs 13 = (.bool true) := hV 13 _ rfl (fun h => by cases h)
        have v14 : vs 14 = (.bool true) := hV 14 _ rfl (fun h => by cases h)
        clear hV
        set_option maxRecDepth 100000 in simp only [putAll, List.map_cons, List.map_nil, List.length_cons, List.length_nil, Nat.reduceAdd, List.range_succ, List.range_zero, List.nil_append, List.cons_append]
        set_option maxRecDepth 100000 in go_simp
        have hEf := Below.trans hEr (Below.mono hE hsz)
        go_wp2
        go_ret
        exact ⟨rfl, hEf⟩
end Go.Proofs.Ytjmeoaookpnknaa
