/- WireBack: the walk of the law. -/
import Derived.Test.YtjmeoaookpnknaaWRead
import Derived.Test.YtjmeoaookpnknaaLawTells
set_option linter.unusedVariables false
set_option linter.unusedSimpArgs false
namespace Go.Proofs.Ytjmeoaookpnknaa
open Go Go.RowKit

def toT (y : ItM) : Int × Int × Int × Int × ByteArray × Bool × List ByteArray × List Int := (y.kind, (y.u : Int), y.n, y.m, y.s, y.on, y.l, y.i)
/-- Behind a name that rewriting does not enter. -/
def ToldB (y : ItM) : Prop := toldB y = true
theorem of_to (y : ItM) : ofT (toT y) = y := by
  cases y
  simp [ofT, toT]
def tellT (t : Int × Int × Int × Int × ByteArray × Bool × List ByteArray × List Int) : List UInt8 := tellM (ofT t)
theorem itK_mk {w : World} {F : Nat → Prop} {y : ItM} {Al : Option Addr} {cl : Nat} {Ai : Option Addr} {ci : Nat} (hok : ItOk y) (hk : 0 ≤ y.kind ∧ y.kind ≤ 5) (hs : y.s.size ≤ 300) (lc : y.l.length ≤ cl ∧ cl ≤ maxLen) (ic : y.i.length ≤ ci ∧ ci ≤ maxLen) (hl : Row str w F Al y.l) (hi : Row (num .i64) w F Ai y.i) :
    itK.K w F (toT y) [.int .i64 y.kind, .int .u64 y.u, .int .i64 y.n, .int .i64 y.m, .string y.s, .bool y.on, .slice Al y.l.length cl, .slice Ai y.i.length ci] := by
  have h1 := hok.u
  have h2 := hok.n
  have h3 := hok.m
  have w1 : ∀ n : Int, -9223372036854775808 ≤ n ∧ n ≤ 9223372036854775807 → (Lit.int .i64 n).wf = true := fun n h => by
    simp [Lit.wf, IntKind.min, IntKind.max, IntKind.signed, IntKind.bits]
    omega
  have w2 : ∀ n : Int, 0 ≤ n ∧ n ≤ 18446744073709551615 → (Lit.int .u64 n).wf = true := fun n h => by
    simp [Lit.wf, IntKind.min, IntKind.max, IntKind.signed, IntKind.bits]
    omega
  exact ⟨[_], _, rfl, ⟨rfl, w1 _ (by simp only [toT]; omega)⟩, [_], _, rfl, ⟨rfl, w2 _ (by simp only [toT]; omega)⟩, [_], _, rfl, ⟨rfl, w1 _ h2⟩, [_], _, rfl, ⟨rfl, w1 _ h3⟩, [_], _, rfl, ⟨rfl, by simp only [maxLen, toT]; omega⟩, [_], _, rfl, ⟨rfl, trivial⟩, [_], _, rfl, ⟨_, rfl, Al, cl, rfl, lc.1, lc.2, hl⟩, ⟨_, rfl, Ai, ci, rfl, ic.1, ic.2, hi⟩⟩
theorem info_item : (Try.prog.info? 33).map (fun i => (i.zero.map (fun z => z.cells.size), i.size, i.bytes)) = some (some itK.sz, itK.sz, 104) := by kernel_rfl
theorem boxedC {w : World} {b : Nat} {cs : List Value} {e : TypeId} (h : w.heap[b]? = some (.cells cs.toArray e (0, 0))) : ∀ j u', cs[j]? = some u' → w.cell? ((⟨b, 0, none⟩ : Addr).add j) = some u' := fun j u' hj => by
  rw [add_zero_block]
  exact (cell_at h j).trans (by simpa using hj)
/-- Blocks that are neither of two rows'. -/
def FK (v u : Value) (j : Nat) : Prop := some j ≠ v.ownBlock ∧ some j ≠ u.ownBlock
/-- What the second half asks of the two rows. -/
theorem back_end {wr : World} {B : Nat} {F : Nat → Prop} {v u : Value} {ys : List (Int × Int × Int × Int × ByteArray × Bool × List ByteArray × List Int)} {fl : List UInt8} (ho : Own kb 5 wr B (fun _ => False) v fl) (hp : Own itK 33 wr B F u ys) :
    ∃ A3 c3 A4 c4, v = .slice A3 fl.length c3 ∧ fl.length ≤ c3 ∧ c3 ≤ maxLen ∧ u = .slice A4 ys.length c4 ∧ Row kb wr (fun k => k < wr.heap.size) A3 fl ∧ Row itK wr (fun k => k < wr.heap.size) A4 ys := by
  have hat := fun j (hj : u.ownBlock = some j) => hp.at hj
  have hat3 := fun j (hj : v.ownBlock = some j) => ho.at hj
  obtain ⟨A3, c3, e3, h1, h2, hr3⟩ := ho.bound.sl
  obtain ⟨A4, c4, e4, _, _, hr4⟩ := hp.bound.sl
  have h4 : ∀ k, ((F k ∧ k < wr.heap.size) ∨ u.ownBlock = some k) → k < wr.heap.size := fun k hk => hk.elim (fun h => h.2) (fun h => (hat k h).2)
  have h3 : ∀ k, (((fun _ => False) k ∧ k < wr.heap.size) ∨ v.ownBlock = some k) → k < wr.heap.size := fun k hk => hk.elim (fun h => h.2) (fun h => (hat3 k h).2)
  exact ⟨A3, c3, A4, c4, e3, h1, h2, e4, hr3.mono h3, hr4.mono h4⟩
theorem flat_split {α : Type} (f : α → List UInt8) (l : List α) (k : Nat) (h : k < l.length) : (l.map f).flatten.drop ((l.take k).map f).flatten.length = f l[k] ++ ((l.drop (k + 1)).map f).flatten := by
  have e : l = l.take k ++ (l[k] :: l.drop (k + 1)) := by rw [← List.drop_eq_getElem_cons h, List.take_append_drop]
  conv => lhs; arg 2; rw [e]
  rw [List.map_append, List.flatten_append, List.drop_left, List.map_cons, List.flatten_cons]
set_option maxRecDepth 100000 in
set_option maxHeartbeats 16000000 in
theorem WireBack_calls (A : Option Addr) (c : Nat) (L : List (Int × Int × Int × Int × ByteArray × Bool × List ByteArray × List Int)) (w : World) (hn : L.length ≤ maxLen) (hr : Row itK w (fun k => k < w.heap.size) A L) :
    Calls Try.prog 6 #[.slice A L.length c] w fun e w' => e = .returned (.bool true) ∧ Below w.heap.size w w' := by
  have hn63 : L.length ≤ 9223372036854775807 := by unfold maxLen at hn; omega
  clear hn
  go_enter Try.func6, Try.ntmps6
  go_wp2_with fail
  go_loopw [3, 4, 16] (fun v u i w' => ∃ (k : Nat) (ys : List (Int × Int × Int × Int × ByteArray × Bool × List ByteArray × List Int)) (fl : List UInt8), k ≤ L.length ∧ k ≤ 40 ∧ i = .int .i64 k ∧ ys.length ≤ k ∧ Hid (fl = (ys.map tellT).flatten) ∧ fl.length ≤ 4000 * k ∧ Own kb 5 w' w.heap.size (fun _ => False) v fl ∧ Own itK 33 w' w.heap.size (FK v u) u ys ∧ Hid (Far v u) ∧ Hid (∀ t ∈ ys, Short (ofT t) ∧ toldB (ofT t) = true) ∧ Below w.heap.size w w') (fun _ _ i _ => L.length - (intOf i).toNat)
  case atStart => exact ⟨0, [], [], by omega, by omega, rfl, by decide, Lib.hid rfl, by decide, Own.nil _ _ _ _ _, Own.nil _ _ _ _ _, Lib.hid (fun j hj => by cases hj), Lib.hid (fun t ht => by cases ht), Below.refl _ _⟩
  case round =>
    obtain ⟨k, ys, fl, hk, hk40, rfl, hys, Hfl, hfl, ho, hp, Hd, HQ, hE⟩ := hrel
    have hsz := hE.size
    by_cases hlt : k < L.length
    · obtain ⟨ad, Al, cl, Ai, ci, hA1, hss, hit, hc0, hcs⟩ := it_at (hr.belowF (fun _ h => h) hE) (fun _ h => h) k hlt
      subst hA1
      generalize ofT L[k] = x at *
      have hc1 := hcs 1 (.int .u64 x.u) (by decide) rfl
      have hc2 := hcs 2 (.int .i64 x.n) (by decide) rfl
      have hc3 := hcs 3 (.int .i64 x.m) (by decide) rfl
      have hc4 := hcs 4 (.string x.s) (by decide) rfl
      have hc5 := hcs 5 (.bool x.on) (by decide) rfl
      have hc6 := hcs 6 (.slice Al x.l.length cl) (by decide) rfl
      have hc7 := hcs 7 (.slice Ai x.i.length ci) (by decide) rfl
      clear hcs
      by_cases h40 : k < 40
      · have Hit := Lib.hid (And.intro hit hss)
        clear hit hss
        obtain ⟨A3, c3, e3, _, _⟩ := ho.slice
        obtain ⟨A4, c4, e4, _, _⟩ := hp.slice
        have hat3 := fun j (hj : u3.ownBlock = some j) => (ho.at hj)
        have hat4 := fun j (hj : u4.ownBlock = some j) => (hp.at hj)
        subst e3
        subst e4
        have Hown := Lib.hid (And.intro ho (And.intro hp (And.intro hat3 hat4)))
        clear ho hp hat3 hat4
        have hE1 := Ext.trans _ _ _ hE (Ext.alloc wr (.cells (itC x Al cl Ai ci) 33))
        have hs1 := (Ext.alloc wr (.cells (itC x Al cl Ai ci) 33)).size
        have Hcut := Lib.hid (cut_calls2 (wr.alloc (.cells (itC x Al cl Ai ci) 33)) w.heap.size hE1.size x Al cl Ai ci (Hit.out.1.below ((Ext.alloc wr (.cells (itC x Al cl Ai ci) 33)).mono hsz)) Hit.out.2)
        have Hw1 := Lib.hid (show Below wr.heap.size wr (wr.alloc (.cells (itC x Al cl Ai ci) 33)) from Ext.alloc _ _)
        unfold itC at *
        clear hE1
        go_wp2_with fail
        refine Hcut.out.mono ?_
        rintro e w2 ⟨y, Bl, dl, Bi, di, rfl, hity, hsh, hE2, hrl, hri⟩
        have hrl2 := hrl.mono (G := fun k => wr.heap.size ≤ k ∧ k < w2.heap.size) fun k hk => ⟨Nat.le_trans hs1 hk.1, hk.2⟩
        have hE2b := Ext.alloc w2 (.cells (itC y Bl dl Bi di) 33)
        have hp7 := heap_alloc_new w2 (.cells (itC y Bl dl Bi di) 33)
        have Htold := Lib.hid (told_calls (w2.alloc (.cells (itC y Bl dl Bi di) 33)) y Bl dl Bi di ((hity.below hE2b).up hE2b.size) hsh)
        have hlen := tellM_len y hity.ok hity.wf hsh
        have hEr2 := Below.trans Hw1.out (Below.mono hE2 hs1)
        have hs2 := hEr2.size
        have hEr2b := Below.trans hEr2 (Below.mono hE2b hs2)
        have hs2b := hE2b.size
        have Hy := Lib.hid (And.intro hity (And.intro hsh (And.intro hrl2 (And.intro hri (And.intro hE2b hp7)))))
        unfold itC at *
        clear hity hsh hrl hrl2 hri hE2b hp7 Hcut Hit hc0 hc1 hc2 hc3 hc4 hc5 hc6 hc7
        go_wp2_with fail
        refine Htold.out.mono ?_
        rintro e w3 ⟨va, vb, rfl, hra, hrb, hE3⟩
        have hEr3 := Below.trans hEr2b (Below.mono hE3 hEr2b.size)
        have hEw3 := Below.trans hE (Below.mono hEr3 hsz)
        have hs3 := hEr3.size
        have hs23 := hE3.size
        cases htb : toldB y with
        | false =>
          rw [htb] at *
          go_wp2_with fail
          exact ⟨⟨k + 1, ys, fl, hlt, by omega, by rw [Int.natCast_succ], by omega, Hfl, by omega, Hown.out.1.below hEr3, Hown.out.2.1.below hEr3, Hd, HQ, hEw3⟩, meas_lt hlt⟩
        | true =>
          have hk6 : 0 ≤ y.kind ∧ y.kind ≤ 5 := of_decide_eq_true htb
          have Htb : ToldB y := htb
          rw [htb] at *
          clear htb
          obtain ⟨A7, c7, e7, k7, m7, hr7⟩ := hra
          subst e7
          have Ht := Lib.hid (show tellT (toT y) = tellM y by unfold tellT; rw [of_to])
          generalize tellM y = t at *
          have ho3 := Hown.out.1.below hEr3
          have hp3 := Hown.out.2.1.below hEr3
          have Hsl7 := Lib.hid (show Sl kb w3 _ (.slice A7 t.length c7) t from ⟨A7, c7, rfl, k7, m7, hr7⟩)
          have hflen : (fl ++ t).length ≤ 4000 * (k + 1) := by rw [List.length_append]; omega
          clear Htold hrb
          go_upto_region 11 with (at_builtin; go_must (refine app_flat kb flat_kb w.heap.size rfl (.tmp 32) (.tmp 33) 23 5 1 rfl Try.underlying23 info_u8 (.slice A3 fl.length c3) (.slice A7 t.length c7) fl t (fun _ => False) _ rfl rfl ho3 Hsl7.out (by omega) (by simp only [maxLen]; omega) (by omega) ?_; intro v4 w4 ho4 hg4 ha4))
          have hE4 := hEw3.grown hg4 hEw3.size (fun j hj => (ho3.at hj).1)
          have hat3 := Hown.out.2.2.1
          have hat4 := Hown.out.2.2.2
          have hB4 := hE4.size
          have hs4 := hg4.size
          have hv4 : ∀ j, v4.ownBlock = some j → (Value.slice A3 fl.length c3).ownBlock = some j ∨ j = w3.heap.size := fun j hj => by
            rcases ha4 with e | e
            · exact .inl (e ▸ hj)
            · rw [e] at hj
              injection hj with hj
              exact .inr hj.symm
          have Hd4 := Lib.hid (show Far v4 (.slice A4 ys.length c4) from fun j h h6 => by
            rcases hv4 j h with h5 | h5
            · exact Hd.out j h5 h6
            · have := (hat4 j h6).2
              omega)
          have hp4 : Own itK 33 w4 w.heap.size (fun j => some j ≠ v4.ownBlock ∧ some j ≠ (Value.slice A4 ys.length c4).ownBlock ∧ j < w4.heap.size) (.slice A4 ys.length c4) ys := by
            refine (hp3.bound.grown hg4 ?_ (fun j hj => hj.1.1)).mono fun j hj => ⟨fun e => ?_, hj.1.2, by omega⟩
            · cases h8 : (Value.slice A4 ys.length c4).ownBlock with
              | none => exact .inl rfl
              | some j => exact .inr fun h => Hd.out j h.symm h8
            · rcases hv4 j e.symm with h5 | h5
              · exact hj.1.1 h5.symm
              · have := hj.2
                omega
          have hmv : ∀ j, j < w2.heap.size + 1 → (∀ i, (Value.slice A3 fl.length c3).ownBlock = some i → i ≠ j) → w4.heap[j]? = (w2.alloc (.cells #[.int .i64 y.kind, .int .u64 y.u, .int .i64 y.n, .int .i64 y.m, .string y.s, .bool y.on, .slice Bl y.l.length dl, .slice Bi y.i.length di] 33)).heap[j]? := fun j hj hne => by
            have h5 : j < (w2.alloc (.cells #[.int .i64 y.kind, .int .u64 y.u, .int .i64 y.n, .int .i64 y.m, .string y.s, .bool y.on, .slice Bl y.l.length dl, .slice Bi y.i.length di] 33)).heap.size := by simp; omega
            rw [hg4.block j (Nat.lt_of_lt_of_le h5 hs23) (fun e => hne j e.symm rfl)]
            exact hE3.block j h5
          have hfar : ∀ j, (wr.heap.size ≤ j ∧ j < w2.heap.size) ∨ j < w.heap.size → some j ≠ v4.ownBlock ∧ some j ≠ (Value.slice A4 ys.length c4).ownBlock ∧ j < w4.heap.size := fun j hj => by
            refine ⟨fun e => ?_, fun e => ?_, by omega⟩
            · rcases hv4 j e.symm with h5 | h5
              · have := hat3 j h5
                omega
              · omega
            · have := hat4 j e.symm
              omega
          have hyl : Row str w4 (fun j => some j ≠ v4.ownBlock ∧ some j ≠ (Value.slice A4 ys.length c4).ownBlock ∧ j < w4.heap.size) Bl y.l := by
            refine (Hy.out.2.2.1.move fun j hj => ?_).mono fun j hj => hfar j (.inl hj)
            rw [hmv j (by omega) (fun i hi e => by have := hat3 i hi; omega)]
            exact Hy.out.2.2.2.2.1.block j hj.2
          have hyi : Row (num .i64) w4 (fun j => some j ≠ v4.ownBlock ∧ some j ≠ (Value.slice A4 ys.length c4).ownBlock ∧ j < w4.heap.size) Bi y.i := by
            refine (Hy.out.2.2.2.1.move fun j hj => ?_).mono fun j hj => hfar j (.inr hj)
            rw [hmv j (by omega) (fun i hi e => by have := hat3 i hi; omega)]
            exact Hy.out.2.2.2.2.1.block j (by omega)
          have hp7 := (hmv w2.heap.size (by omega) (fun i hi e => by have := hat3 i hi; omega)).trans Hy.out.2.2.2.2.2
          have Hyk := Lib.hid (fun o => itK_mk (w := w4.alloc o) Hy.out.1.ok hk6 Hy.out.2.1.s Hy.out.1.lc Hy.out.1.ic (hyl.alloc o) (hyi.alloc o))
          have hb0 := (cell_at hp7 0).trans (show _ = some (.int .i64 y.kind) from rfl)
          have hb1 := (cell_at hp7 1).trans (show _ = some (.int .u64 y.u) from rfl)
          have hb2 := (cell_at hp7 2).trans (show _ = some (.int .i64 y.n) from rfl)
          have hb3 := (cell_at hp7 3).trans (show _ = some (.int .i64 y.m) from rfl)
          have hb4 := (cell_at hp7 4).trans (show _ = some (.string y.s) from rfl)
          have hb5 := (cell_at hp7 5).trans (show _ = some (.bool y.on) from rfl)
          have hb6 := (cell_at hp7 6).trans (show _ = some (.slice Bl y.l.length dl) from rfl)
          have hb7 := (cell_at hp7 7).trans (show _ = some (.slice Bi y.i.length di) from rfl)
          obtain ⟨A5, c5, e5, _, _⟩ := ho4.slice
          subst e5
          have Ho4 := Lib.hid (And.intro ho4 (And.intro hp4 (And.intro hE4 hv4)))
          have hfl2 := hflen
          have Hfl2 := Lib.hid (show fl ++ t = ((ys ++ [toT y]).map tellT).flatten by rw [List.map_append, List.flatten_append, ← Hfl.out]; simp [Ht.out])
          have HQ2 := Lib.hid (show ∀ t ∈ ys ++ [toT y], Short (ofT t) ∧ toldB (ofT t) = true from fun t ht => by
            rcases List.mem_append.1 ht with h | h
            · exact HQ.out t h
            · rw [List.mem_singleton.1 h, of_to]
              exact ⟨Hy.out.2.1, Htb⟩)
          generalize fl ++ t = fl2 at *
          have hat5 := fun j (hj : (Value.slice A5 fl2.length c5).ownBlock = some j) => ho4.at hj
          have Hat5 := Lib.hid hat5
          have Hbox := Lib.hid (boxedC (heap_alloc_new w4 (.cells #[.int .i64 y.kind, .int .u64 y.u, .int .i64 y.n, .int .i64 y.m, .string y.s, .bool y.on, .slice Bl y.l.length dl, .slice Bi y.i.length di] 33)))
          clear hat5 ho4 hp4 hyl hyi hE4 hv4 hg4 ha4 ho3 hp3 hr7 hEw3 hEr3 hE3 hEr2 hE2 hE hlen hflen hp7 hmv hfar Hsl7
          have hb1' : (ys.length + [toT y].length) * 104 ≤ 140737488355328 := by simp only [List.length_singleton]; omega
          have hb2' : ys.length + [toT y].length ≤ maxLen := by simp only [maxLen, List.length_singleton]; omega
          have hb3' : w.heap.size ≤ (w4.alloc (.cells #[.int .i64 y.kind, .int .u64 y.u, .int .i64 y.n, .int .i64 y.m, .string y.s, .bool y.on, .slice Bl y.l.length dl, .slice Bi y.i.length di] 33)).heap.size := by simp; omega
          have Hb := Lib.hid (And.intro hb1' (And.intro hb2' hb3'))
          have Hreps := Lib.hid (fun o => Reps.single (itK.len (Hyk.out o)) (Hyk.out o))
          clear hb1' hb2' hb3'
          go_wp2_with (at_builtin; go_must (refine app_core itK w.heap.size (fun j => some j ≠ (Value.slice A5 fl2.length c5).ownBlock ∧ some j ≠ (Value.slice A4 ys.length c4).ownBlock ∧ j < w4.heap.size) rfl (.tmp 35) (.tmp 37) 28 33 104 rfl Try.underlying28 info_item (.slice A4 ys.length c4) _ ys [toT y] rfl rfl (Ho4.out.2.1.alloc _) (some ⟨w4.heap.size, 0, none⟩) 1 [.int .i64 y.kind, .int .u64 y.u, .int .i64 y.n, .int .i64 y.m, .string y.s, .bool y.on, .slice Bl y.l.length dl, .slice Bi y.i.length di] rfl (.inr ⟨_, rfl, trivial, Hbox.out⟩) (Hreps.out _) Hb.out.1 Hb.out.2.1 Hb.out.2.2 (fun j hj _ => hj.2.1) ?_; intro v6 w6 ho6 hg6 ha6))
          have hsa : w4.heap.size ≤ (w4.alloc (.cells #[.int .i64 y.kind, .int .u64 y.u, .int .i64 y.n, .int .i64 y.m, .string y.s, .bool y.on, .slice Bl y.l.length dl, .slice Bi y.i.length di] 33)).heap.size := (Ext.alloc _ _).size
          have hne6 : ∀ j, j < w4.heap.size → some j ≠ (Value.slice A4 ys.length c4).ownBlock → some j ≠ v6.ownBlock := fun j hj h4 h => by
            rcases ha6 with e | e
            · exact h4 (h.trans e)
            · rw [e] at h
              injection h with h
              omega
          have hd56 : (Value.slice A5 fl2.length c5).ownBlock = none ∨ (Value.slice A5 fl2.length c5).ownBlock ≠ (Value.slice A4 ys.length c4).ownBlock := by
            cases h8 : (Value.slice A5 fl2.length c5).ownBlock with
            | none => exact .inl rfl
            | some j => exact .inr fun h => Hd4.out j h8 h.symm
          refine ⟨⟨k + 1, ys ++ [toT y], fl2, hlt, by omega, by rw [Int.natCast_succ], by rw [List.length_append, List.length_singleton]; omega, Hfl2, hfl2, (Ho4.out.1.alloc _).grown hg6 hd56 (fun _ h => h.elim), ho6.mono fun j hj => ⟨hj.1, hne6 j hj.2.2 hj.2.1⟩, Lib.hid fun j h5 h6 => ?far, HQ2, (Ho4.out.2.2.1.alloc hB4 _).grown hg6 (Nat.le_trans hB4 hsa) (fun j hj => (hat4 j hj).1)⟩, meas_lt hlt⟩
          rcases ha6 with e | e
          · exact Hd4.out j h5 (e ▸ h6)
          · rw [e] at h6
            injection h6 with h6
            have := (Hat5.out j h5).2
            omega
      · have h40' : (40 : Int) ≤ (k : Int) := by omega
        clear hit
        have Haw := Lib.hid (fun W => awake_calls W)
        have hEr := hE
        obtain ⟨A3, c3, A4, c4, e3, h33, h3m, e4, hr3, hr4⟩ := back_end ho hp
        subst e3
        subst e4
        clear ho hp Hd
        have hE0 : Ext wr (wr.alloc (.cells #[.int .i64 x.kind, .int .u64 x.u, .int .i64 x.n, .int .i64 x.m, .string x.s, .bool x.on, .slice Al x.l.length cl, .slice Ai x.i.length ci] 33)) := (Ext.alloc _ _)
        have hs0 := hE0.size
        obtain ⟨Bk, hBk⟩ : ∃ Bk, Bk = wr.heap.size := ⟨_, rfl⟩
        obtain ⟨B0, hB0⟩ : ∃ B0, B0 = ((wr.alloc (.cells #[.int .i64 x.kind, .int .u64 x.u, .int .i64 x.n, .int .i64 x.m, .string x.s, .bool x.on, .slice Al x.l.length cl, .slice Ai x.i.length ci] 33))).heap.size := ⟨_, rfl⟩
        have Hr4 := Lib.hid hr4
        have Hnr := Lib.hid (NewReader_calls A3 c3 fl _ (wr.alloc (.cells #[.int .i64 x.kind, .int .u64 x.u, .int .i64 x.n, .int .i64 x.m, .string x.s, .bool x.on, .slice Al x.l.length cl, .slice Ai x.i.length ci] 33)) (by omega) h33 h3m (hr3.move fun j hj => hE0.block j hj))
        have hys63 : ys.length ≤ 9223372036854775807 := by omega
        clear hr3 hr4
        go_wp2_with fail
        refine Hnr.out.mono ?_
        rintro e w1 ⟨g, Ar, cr, rfl, hrd, hE1⟩
        have hEw1 := Below.trans (Below.trans hEr (Below.mono hE0 hsz)) (Below.mono hE1 (Nat.le_trans hsz hs0))
        have hs1 := hE1.size
        rw [← hB0] at hrd hs1 hs0
        have hbase := hrd.base
        have Hmem := Lib.hid (fun W (hm : Mut g w1 W) => show Row itK W (fun k => k < Bk) _ _ from (Hr4.out.move (w' := W) fun j hj => ((hm.block j (by omega) (by omega)).trans (hE1.block j (by omega))).trans (hE0.block j hj)).mono fun j hj => by omega)
        have Hrd := Lib.hid hrd
        clear hrd Hnr
        go_wp2_with fail
        go_loopw [46] (fun i w' => ∃ (j pos : Nat), j ≤ ys.length ∧ i = .int .i64 j ∧ Hid (pos = ((ys.take j).map tellT).flatten.length) ∧ RdAt w' B0 g Ar cr ⟨fl, pos, 0⟩ ∧ Mut g w1 w') (fun i _ => ys.length - (intOf i).toNat)
        case atStart => exact ⟨0, 0, by omega, rfl, Lib.hid rfl, Hrd.out, Mut.refl _ _⟩
        case round =>
          obtain ⟨j, pos, hj, rfl, Hpos, hrd, hm⟩ := hrel
          have hszm := hm.size
          by_cases hjl : j < ys.length
          · obtain ⟨ad4, Al2, cl2, Ai2, ci2, hA4, hss2, hit2, hd0, hds⟩ := it_at (Hmem.out _ hm) (fun _ h => h) j hjl
            subst hA4
            have hQ := HQ.out _ (List.getElem_mem hjl)
            have hspl := flat_split tellT ys j hjl
            rw [← Hfl.out, ← Hpos.out] at hspl
            have htake : pos + (tellT ys[j]).length = ((ys.take (j + 1)).map tellT).flatten.length := by rw [flat_map_snoc _ _ _ hjl, List.length_append, ← Hpos.out]
            have Htake := Lib.hid htake
            clear htake
            unfold tellT at hspl Htake
            generalize ofT ys[j] = z at *
            generalize ((ys.drop (j + 1)).map fun t => tellM (ofT t)).flatten = r at *
            have hd1 := hds 1 (.int .u64 z.u) (by decide) rfl
            have hd2 := hds 2 (.int .i64 z.n) (by decide) rfl
            have hd3 := hds 3 (.int .i64 z.m) (by decide) rfl
            have hd4 := hds 4 (.string z.s) (by decide) rfl
            have hd5 := hds 5 (.bool z.on) (by decide) rfl
            have hd6 := hds 6 (.slice Al2 z.l.length cl2) (by decide) rfl
            have hd7 := hds 7 (.slice Ai2 z.i.length ci2) (by decide) rfl
            clear hds
            have hx1 := Ext.alloc wr (.cells (itC z Al2 cl2 Ai2 ci2) 33)
            have hx1s := hx1.size
            have Hrdc := Lib.hid (read_calls (wr.alloc (.cells (itC z Al2 cl2 Ai2 ci2) 33)) B0 g Ar cr fl pos (hrd.ext hx1) z Al2 cl2 Ai2 ci2 ((hit2.below (Below.mono hx1 (by omega))).up (by omega)) ((hit2.l.alloc _).mono fun k hk => ⟨by omega, by omega⟩) ((hit2.i.alloc _).mono fun k hk => ⟨by omega, by omega⟩) hQ.1 hQ.2 r hspl)
            generalize (tellM z).length = tl at *
            have Hx1 := Lib.hid hx1
            have Hm := Lib.hid hm
            unfold itC at *
            clear hspl hQ hit2 hss2 hrd hx1 hm
            go_wp2_with fail
            refine Hrdc.out.mono ?_
            rintro e w3 ⟨rfl, hrd3, hm3⟩
            have Herr := Lib.hid (show Calls Try.prog 17 #[.pointer (some ⟨g, 0, none⟩)] w3 fun e w' => e = .returned (.int .i64 0) ∧ w3 = w' from rdErr_calls w3 B0 g Ar cr _ hrd3)
            go_wp2_with fail
            refine Herr.out.mono ?_
            rintro e w4 ⟨rfl, rfl⟩
            go_wp2_with fail
            refine ⟨⟨j + 1, pos + tl, hjl, by rw [Int.natCast_succ], Htake, hrd3, (Hm.out.trans (Mut.of Hx1.out)).trans hm3⟩, meas_lt hjl⟩
          · have hjn : ¬ (j : Int) < (ys.length : Int) := by omega
            have hpos : pos = fl.length := by
              rw [Hpos.out, Hfl.out, List.take_of_length_le (by omega)]
            subst hpos
            have hl0 : leftR ⟨fl, fl.length, 0⟩ = 0 := Nat.sub_self _
            have hE0' : EndR ⟨fl, fl.length, 0⟩ = ⟨fl, fl.length, 0⟩ := by
              unfold EndR
              rw [hl0]
              rfl
            have HL := Lib.hid (show Calls Try.prog 23 #[.pointer (some ⟨g, 0, none⟩)] wr fun e w' => e = .returned (.int .i64 0) ∧ Drawn wr w' from by
              have := rdLeft_calls wr B0 g Ar cr _ hrd
              rw [hl0] at this
              exact this)
            have HA := Lib.hid (fun n => show Calls Try.prog 18 #[.pointer (some ⟨g, 0, none⟩)] (wr.drewN n) fun e w' => e = .returned (.int .i64 fl.length) ∧ wr.drewN n = w' from rdAt_calls _ B0 g Ar cr _ (hrd.drewN n))
            have HN := Lib.hid (fun n => show Calls Try.prog 24 #[.pointer (some ⟨g, 0, none⟩)] (wr.drewN n) fun e w' => e = .returned (.int .i64 0) ∧ Mut g (wr.drewN n) w' from by
              have := rdEnd_calls _ B0 g Ar cr _ (hrd.drewN n)
              rw [hE0'] at this
              exact this.mono fun e w' h => ⟨h.1, h.2.2⟩)
            have Hm := Lib.hid hm
            clear hl0 hE0' hrd hm Hpos
            go_wp2_with fail
            refine HL.out.mono ?_
            rintro e w5 ⟨rfl, nd, rfl⟩
            go_wp2_with fail
            refine (HA.out nd).mono ?_
            rintro e w6 ⟨rfl, rfl⟩
            go_wp2_with fail
            refine (HN.out nd).mono ?_
            rintro e w7 ⟨rfl, hm7⟩
            go_wp2_with fail
            refine (Haw.out w7).mono ?_
            rintro e w8 ⟨rfl, hb8⟩
            have hmm := (Hm.out.drewN nd).trans hm7
            have hf1 := Below.trans hEw1 (hmm.below (B := w.heap.size) (by omega) hEw1.size)
            have hf2 := Below.trans hf1 (Below.mono hb8 hf1.size)
            go_wp2
            go_ret
            exact ⟨rfl, hf2⟩
    · have hkn : ¬ (k : Int) < (L.length : Int) := by omega
      have Haw := Lib.hid (fun W => awake_calls W)
      have hEr := hE
      obtain ⟨A3, c3, A4, c4, e3, h33, h3m, e4, hr3, hr4⟩ := back_end ho hp
      subst e3
      subst e4
      clear ho hp Hd
      have hE0 : Ext wr wr := (Ext.refl _)
      have hs0 := hE0.size
      obtain ⟨Bk, hBk⟩ : ∃ Bk, Bk = wr.heap.size := ⟨_, rfl⟩
      obtain ⟨B0, hB0⟩ : ∃ B0, B0 = (wr).heap.size := ⟨_, rfl⟩
      have Hr4 := Lib.hid hr4
      have Hnr := Lib.hid (NewReader_calls A3 c3 fl _ wr (by omega) h33 h3m (hr3.move fun j hj => hE0.block j hj))
      have hys63 : ys.length ≤ 9223372036854775807 := by omega
      clear hr3 hr4
      go_wp2_with fail
      refine Hnr.out.mono ?_
      rintro e w1 ⟨g, Ar, cr, rfl, hrd, hE1⟩
      have hEw1 := Below.trans (Below.trans hEr (Below.mono hE0 hsz)) (Below.mono hE1 (Nat.le_trans hsz hs0))
      have hs1 := hE1.size
      rw [← hB0] at hrd hs1 hs0
      have hbase := hrd.base
      have Hmem := Lib.hid (fun W (hm : Mut g w1 W) => show Row itK W (fun k => k < Bk) _ _ from (Hr4.out.move (w' := W) fun j hj => ((hm.block j (by omega) (by omega)).trans (hE1.block j (by omega))).trans (hE0.block j hj)).mono fun j hj => by omega)
      have Hrd := Lib.hid hrd
      clear hrd Hnr
      go_wp2_with fail
      go_loopw [46] (fun i w' => ∃ (j pos : Nat), j ≤ ys.length ∧ i = .int .i64 j ∧ Hid (pos = ((ys.take j).map tellT).flatten.length) ∧ RdAt w' B0 g Ar cr ⟨fl, pos, 0⟩ ∧ Mut g w1 w') (fun i _ => ys.length - (intOf i).toNat)
      case atStart => exact ⟨0, 0, by omega, rfl, Lib.hid rfl, Hrd.out, Mut.refl _ _⟩
      case round =>
        obtain ⟨j, pos, hj, rfl, Hpos, hrd, hm⟩ := hrel
        have hszm := hm.size
        by_cases hjl : j < ys.length
        · obtain ⟨ad4, Al2, cl2, Ai2, ci2, hA4, hss2, hit2, hd0, hds⟩ := it_at (Hmem.out _ hm) (fun _ h => h) j hjl
          subst hA4
          have hQ := HQ.out _ (List.getElem_mem hjl)
          have hspl := flat_split tellT ys j hjl
          rw [← Hfl.out, ← Hpos.out] at hspl
          have htake : pos + (tellT ys[j]).length = ((ys.take (j + 1)).map tellT).flatten.length := by rw [flat_map_snoc _ _ _ hjl, List.length_append, ← Hpos.out]
          have Htake := Lib.hid htake
          clear htake
          unfold tellT at hspl Htake
          generalize ofT ys[j] = z at *
          generalize ((ys.drop (j + 1)).map fun t => tellM (ofT t)).flatten = r at *
          have hd1 := hds 1 (.int .u64 z.u) (by decide) rfl
          have hd2 := hds 2 (.int .i64 z.n) (by decide) rfl
          have hd3 := hds 3 (.int .i64 z.m) (by decide) rfl
          have hd4 := hds 4 (.string z.s) (by decide) rfl
          have hd5 := hds 5 (.bool z.on) (by decide) rfl
          have hd6 := hds 6 (.slice Al2 z.l.length cl2) (by decide) rfl
          have hd7 := hds 7 (.slice Ai2 z.i.length ci2) (by decide) rfl
          clear hds
          have hx1 := Ext.alloc wr (.cells (itC z Al2 cl2 Ai2 ci2) 33)
          have hx1s := hx1.size
          have Hrdc := Lib.hid (read_calls (wr.alloc (.cells (itC z Al2 cl2 Ai2 ci2) 33)) B0 g Ar cr fl pos (hrd.ext hx1) z Al2 cl2 Ai2 ci2 ((hit2.below (Below.mono hx1 (by omega))).up (by omega)) ((hit2.l.alloc _).mono fun k hk => ⟨by omega, by omega⟩) ((hit2.i.alloc _).mono fun k hk => ⟨by omega, by omega⟩) hQ.1 hQ.2 r hspl)
          generalize (tellM z).length = tl at *
          have Hx1 := Lib.hid hx1
          have Hm := Lib.hid hm
          unfold itC at *
          clear hspl hQ hit2 hss2 hrd hx1 hm
          go_wp2_with fail
          refine Hrdc.out.mono ?_
          rintro e w3 ⟨rfl, hrd3, hm3⟩
          have Herr := Lib.hid (show Calls Try.prog 17 #[.pointer (some ⟨g, 0, none⟩)] w3 fun e w' => e = .returned (.int .i64 0) ∧ w3 = w' from rdErr_calls w3 B0 g Ar cr _ hrd3)
          go_wp2_with fail
          refine Herr.out.mono ?_
          rintro e w4 ⟨rfl, rfl⟩
          go_wp2_with fail
          refine ⟨⟨j + 1, pos + tl, hjl, by rw [Int.natCast_succ], Htake, hrd3, (Hm.out.trans (Mut.of Hx1.out)).trans hm3⟩, meas_lt hjl⟩
        · have hjn : ¬ (j : Int) < (ys.length : Int) := by omega
          have hpos : pos = fl.length := by
            rw [Hpos.out, Hfl.out, List.take_of_length_le (by omega)]
          subst hpos
          have hl0 : leftR ⟨fl, fl.length, 0⟩ = 0 := Nat.sub_self _
          have hE0' : EndR ⟨fl, fl.length, 0⟩ = ⟨fl, fl.length, 0⟩ := by
            unfold EndR
            rw [hl0]
            rfl
          have HL := Lib.hid (show Calls Try.prog 23 #[.pointer (some ⟨g, 0, none⟩)] wr fun e w' => e = .returned (.int .i64 0) ∧ Drawn wr w' from by
            have := rdLeft_calls wr B0 g Ar cr _ hrd
            rw [hl0] at this
            exact this)
          have HA := Lib.hid (fun n => show Calls Try.prog 18 #[.pointer (some ⟨g, 0, none⟩)] (wr.drewN n) fun e w' => e = .returned (.int .i64 fl.length) ∧ wr.drewN n = w' from rdAt_calls _ B0 g Ar cr _ (hrd.drewN n))
          have HN := Lib.hid (fun n => show Calls Try.prog 24 #[.pointer (some ⟨g, 0, none⟩)] (wr.drewN n) fun e w' => e = .returned (.int .i64 0) ∧ Mut g (wr.drewN n) w' from by
            have := rdEnd_calls _ B0 g Ar cr _ (hrd.drewN n)
            rw [hE0'] at this
            exact this.mono fun e w' h => ⟨h.1, h.2.2⟩)
          have Hm := Lib.hid hm
          clear hl0 hE0' hrd hm Hpos
          go_wp2_with fail
          refine HL.out.mono ?_
          rintro e w5 ⟨rfl, nd, rfl⟩
          go_wp2_with fail
          refine (HA.out nd).mono ?_
          rintro e w6 ⟨rfl, rfl⟩
          go_wp2_with fail
          refine (HN.out nd).mono ?_
          rintro e w7 ⟨rfl, hm7⟩
          go_wp2_with fail
          refine (Haw.out w7).mono ?_
          rintro e w8 ⟨rfl, hb8⟩
          have hmm := (Hm.out.drewN nd).trans hm7
          have hf1 := Below.trans hEw1 (hmm.below (B := w.heap.size) (by omega) hEw1.size)
          have hf2 := Below.trans hf1 (Below.mono hb8 hf1.size)
          go_wp2
          go_ret
          exact ⟨rfl, hf2⟩
end Go.Proofs.Ytjmeoaookpnknaa
