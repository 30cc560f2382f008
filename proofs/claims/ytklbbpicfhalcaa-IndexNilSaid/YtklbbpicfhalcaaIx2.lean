/- Contracts: sort.Search, the closures, entry, Find, After. -/
import Derived.Test.YtklbbpicfhalcaaIx1
import Derived.Test.YtklbbpicfhalcaaRegion3
import Derived.BigQuiet
import Derived.Deep.DeepCutAuto
set_option linter.unusedVariables false
set_option linter.unusedSimpArgs false
namespace Go.Proofs.Ytklbbpicfhalcaa
open Go Go.RowKit

/-- The closure's answers. -/
def Asks (K : Nat) (c1 c2 : Value) (n : Nat) (p : Nat → Bool) (W : World) : Prop := ∀ i, i < n → Calls Try.prog K #[.int .i64 (i : Int), c1, c2] W fun e w' => e = .returned (.bool (p i)) ∧ Ext W w'
set_option maxHeartbeats 2000000 in
theorem Search_calls (n K : Nat) (c1 c2 : Value) (p : Nat → Bool) (w : World) (hn : n ≤ 1099511627776) (hk : ∀ args W, (callFunc K args).run Try.prog W = .ok (.enter K args) W) (hA : ∀ W, Ext w W → Asks K c1 c2 n p W) :
    Calls Try.prog 29 #[.int .i64 n, .func (.func K) #[] #[c1, c2]] w fun e w' => ∃ r : Nat, e = .returned (.int .i64 r) ∧ r ≤ n ∧ (0 < r → p (r - 1) = false) ∧ (r < n → p r = true) ∧ Ext w w' := by
  go_enter Try.func29, Try.ntmps29
  go_wp2
  go_loopw [5, 6] (fun vi vj w' => ∃ i j : Nat, vi = .int .i64 i ∧ vj = .int .i64 j ∧ i ≤ j ∧ j ≤ n ∧ Hid ((0 < i → p (i - 1) = false) ∧ (j < n → p j = true)) ∧ Ext w w') (fun vi vj _ => (intOf vj).toNat - (intOf vi).toNat)
  case atStart => exact ⟨0, n, rfl, rfl, by omega, by omega, Lib.hid ⟨fun h => by omega, fun h => by omega⟩, Ext.refl _⟩
  case round =>
    obtain ⟨i, j, rfl, rfl, hij, hj, Hp, hE⟩ := hrel
    by_cases hlt : i < j
    · have hm1 : (i + j) / 2 < j := by omega
      have hm2 : i ≤ (i + j) / 2 := by omega
      have Hmid := Lib.hid (show ((i : Int) + j) / 2 = ((i + j) / 2 : Nat) by omega)
      have Hk := Lib.hid hk
      clear hk
      go_wp2_with fail
      rw [Hk.out, Hmid.out]
      generalize (i + j) / 2 = m at *
      clear Hmid
      refine (hA wr hE m (by omega)).mono ?_
      rintro e w2 ⟨rfl, hb⟩
      have hE2 : Ext w w2 := Ext.trans _ _ _ hE hb
      cases hp : p m with
      | true =>
        go_wp2
        go_roundw
        case rel => exact ⟨i, m, rfl, rfl, hm2, by omega, Lib.hid ⟨Hp.out.1, fun _ => hp⟩, hE2⟩
        case measure => simp [intOf]; omega
      | false =>
        go_wp2
        go_roundw
        case rel => exact ⟨m + 1, j, by go_num, rfl, hm1, hj, Lib.hid ⟨fun _ => by simpa using hp, Hp.out.2⟩, hE2⟩
        case measure => simp [intOf]; omega
    · obtain rfl : i = j := by omega
      go_wp2
      go_ret
      exact ⟨i, rfl, hj, Hp.out.1, Hp.out.2, hE⟩
theorem enters_of {K : Nat} {f : Func} (h : Try.prog.funcs[K]? = some f) (hn : (f.name == "runtime.NumGoroutine") = false) (hb : f.body.isNone = false) (args : Array Value) (W : World) : (callFunc K args).run Try.prog W = .ok (.enter K args) W := by
  have hn' : ¬ f.name = "runtime.NumGoroutine" := by simpa using hn
  have hb' : ¬ f.body = none := fun e => by rw [e] at hb; cases hb
  simp [callFunc, go_sem, h, hn', hb']
def entV (e : Int × Int × Int) : Value := .agg #[.int .i64 e.1, .int .i64 e.2.1, .int .i64 e.2.2]
theorem asks_find (g B bx bo : Nat) (o : Int) (v : Value) (x : IxM) (W : World) (h : IxAt W B g v x) (hx : W.cell? ⟨bx, 0, none⟩ = some (.pointer (some ⟨g, 0, none⟩))) (ho : W.cell? ⟨bo, 0, none⟩ = some (.int .i64 o)) :
    Asks 30 (.pointer (some ⟨bx, 0, none⟩)) (.pointer (some ⟨bo, 0, none⟩)) x.l.length (fun i => decide (o < (x.l.getD i (0, 0, 0)).1)) W := by
  intro i hi
  obtain ⟨h0, h1, h2, h3, h4⟩ := h.cells
  obtain ⟨A, c, rfl, hc, hm, hr⟩ := h.2.2.sl
  obtain ⟨ad, rfl, e1, e2, e3⟩ := hr.ent_at i hi
  have Hg : (x.l.getD i (0, 0, 0)) = x.l[i] := by simp [hi]
  dsimp only
  rw [Hg]
  generalize x.l[i] = z at *
  clear Hg h hr
  have hl63 : x.l.length ≤ 9223372036854775807 := by unfold maxLen at hm; omega
  go_enter Try.func30, Try.ntmps30
  go_wp2_with fail
  go_quiet (fail)
  go_simp
  go_wp2
  go_ret
  exact ⟨rfl, blw_drewN (Below.refl _ _) _⟩
theorem asks_after (g B bx bo : Nat) (o : Int) (v : Value) (x : IxM) (W : World) (h : IxAt W B g v x) (hx : W.cell? ⟨bx, 0, none⟩ = some (.pointer (some ⟨g, 0, none⟩))) (ho : W.cell? ⟨bo, 0, none⟩ = some (.int .i64 o)) :
    Asks 31 (.pointer (some ⟨bx, 0, none⟩)) (.pointer (some ⟨bo, 0, none⟩)) x.l.length (fun i => decide (o ≤ (x.l.getD i (0, 0, 0)).2.2)) W := by
  intro i hi
  obtain ⟨h0, h1, h2, h3, h4⟩ := h.cells
  obtain ⟨A, c, rfl, hc, hm, hr⟩ := h.2.2.sl
  obtain ⟨ad, rfl, e1, e2, e3⟩ := hr.ent_at i hi
  have Hg : (x.l.getD i (0, 0, 0)) = x.l[i] := by simp [hi]
  dsimp only
  rw [Hg]
  generalize x.l[i] = z at *
  clear Hg h hr
  have hl63 : x.l.length ≤ 9223372036854775807 := by unfold maxLen at hm; omega
  go_enter Try.func31, Try.ntmps31
  go_wp2_with fail
  go_quiet (fail)
  go_simp
  go_wp2
  go_ret
  exact ⟨rfl, blw_drewN (Below.refl _ _) _⟩
theorem asks_from (g B bx bo : Nat) (o : Int) (v : Value) (x : IxM) (W : World) (h : IxAt W B g v x) (hx : W.cell? ⟨bx, 0, none⟩ = some (.pointer (some ⟨g, 0, none⟩))) (ho : W.cell? ⟨bo, 0, none⟩ = some (.int .i64 o)) :
    Asks 58 (.pointer (some ⟨bx, 0, none⟩)) (.pointer (some ⟨bo, 0, none⟩)) x.l.length (fun i => decide (o ≤ (x.l.getD i (0, 0, 0)).1)) W := by
  intro i hi
  obtain ⟨h0, h1, h2, h3, h4⟩ := h.cells
  obtain ⟨A, c, rfl, hc, hm, hr⟩ := h.2.2.sl
  obtain ⟨ad, rfl, e1, e2, e3⟩ := hr.ent_at i hi
  have Hg : (x.l.getD i (0, 0, 0)) = x.l[i] := by simp [hi]
  dsimp only
  rw [Hg]
  generalize x.l[i] = z at *
  clear Hg h hr
  have hl63 : x.l.length ≤ 9223372036854775807 := by unfold maxLen at hm; omega
  go_enter Try.func58, Try.ntmps58
  go_wp2_with fail
  go_quiet (fail)
  go_simp
  go_wp2
  go_ret
  exact ⟨rfl, blw_drewN (Below.refl _ _) _⟩
/-- What entry answers. -/
def entryM (x : IxM) (i : Int) : (Int × Int × Int) × Bool := if i < 0 then ((0, 0, 0), false) else (x.l.getD i.toNat (0, 0, 0), true)
set_option maxHeartbeats 2000000 in
theorem entry_calls (g B : Nat) (v : Value) (x : IxM) (W : World) (h : IxAt W B g v x) (i : Int) (hi : i < x.l.length) (hlo : -1 ≤ i) :
    Calls Try.prog 28 #[.pointer (some ⟨g, 0, none⟩), .int .i64 i] W fun e w' => e = .returned (.tuple #[entV (entryM x i).1, .bool (entryM x i).2]) ∧ Ext W w' := by
  unfold entryM
  by_cases hneg : i < 0
  · rw [if_pos hneg]
    go_enter Try.func28, Try.ntmps28
    go_wp2
    refine bodyPost_ret (results_cell2 rfl _ _ _ ⟨W.heap.size, 0, none⟩ rfl (load_ent _ _ _ _ _ (heap_alloc_new _ _))) rfl ?_
    exact ⟨rfl, Ext.alloc _ _⟩
  · rw [if_neg hneg]
    obtain ⟨k, rfl⟩ := Int.eq_ofNat_of_zero_le (show 0 ≤ i by omega)
    have hk : k < x.l.length := by omega
    have hE := Ext.alloc W (.cells #[.int .i64 0, .int .i64 0, .int .i64 0] 28)
    obtain ⟨h0, h1, h2, h3, h4⟩ := (h.ext hE).cells
    obtain ⟨A, c, rfl, hc, hm, hr⟩ := (h.ext hE).2.2.sl
    obtain ⟨ad, rfl, e1, e2, e3⟩ := hr.ent_at k hk
    have Hg : (x.l.getD k (0, 0, 0)) = x.l[k] := by simp [hk]
    rw [Int.toNat_natCast, Hg]
    generalize x.l[k] = z at *
    clear Hg h hr
    have hl63 : x.l.length ≤ 9223372036854775807 := by unfold maxLen at hm; omega
    go_enter Try.func28, Try.ntmps28
    go_wp2
    refine bodyPost_ret (results_cell2 rfl _ _ _ ⟨W.heap.size, 0, none⟩ rfl (load_ent _ _ _ _ _ (heap_alloc_new _ _))) rfl ?_
    exact ⟨rfl, Ext.alloc _ _⟩
/-- How many at the beginning are so. -/
def cutN {α : Type} (q : α → Bool) (l : List α) : Nat := (l.takeWhile q).length
theorem cutN_le {α : Type} (q : α → Bool) : ∀ l : List α, cutN q l ≤ l.length
  | [] => Nat.le_refl _
  | x :: l => by
    have := cutN_le q l
    unfold cutN at *
    rw [List.takeWhile_cons]
    split <;> simp <;> omega
theorem cutN_in {α : Type} (q : α → Bool) (d : α) : ∀ (l : List α) (i : Nat), i < cutN q l → q (l.getD i d) = true
  | [], i, h => by simp [cutN] at h
  | x :: l, i, h => by
    unfold cutN at h
    rw [List.takeWhile_cons] at h
    split at h
    · rename_i hx
      cases i with
      | zero => simpa using hx
      | succ i =>
        have := cutN_in q d l i (by unfold cutN; simpa using h)
        simpa using this
    · simp at h
theorem cutN_at {α : Type} (q : α → Bool) (d : α) : ∀ (l : List α), cutN q l < l.length → q (l.getD (cutN q l) d) = false
  | [], h => by simp [cutN] at h
  | x :: l, h => by
    unfold cutN at h ⊢
    rw [List.takeWhile_cons] at h ⊢
    split
    · rename_i hx
      rw [if_pos hx] at h
      have := cutN_at q d l (by unfold cutN; simpa using h)
      unfold cutN at this
      simpa using this
    · rename_i hx
      simpa using hx
/-- Where the answers turn, there is one place. -/
theorem turn_one {p : Nat → Bool} {n r s : Nat} (hm : ∀ i j, i ≤ j → j < n → p i = true → p j = true) (hr : r ≤ n) (hs : s ≤ n) (r1 : 0 < r → p (r - 1) = false) (r2 : r < n → p r = true) (s1 : 0 < s → p (s - 1) = false) (s2 : s < n → p s = true) : r = s := by
  rcases Nat.lt_trichotomy r s with h | h | h
  · have := hm r (s - 1) (by omega) (by omega) (r2 (by omega))
    rw [s1 (by omega)] at this
    cases this
  · exact h
  · have := hm s (r - 1) (by omega) (by omega) (s2 (by omega))
    rw [r1 (by omega)] at this
    cases this
/-- Search tells how many at the beginning are so, if none behind them is. -/
theorem Search_cut {α : Type} (q : α → Bool) (d : α) (l : List α) (K : Nat) (c1 c2 : Value) (w : World) (hn : l.length ≤ 1099511627776) (hk : ∀ args W, (callFunc K args).run Try.prog W = .ok (.enter K args) W)
    (hm : ∀ i j, i ≤ j → j < l.length → q (l.getD j d) = true → q (l.getD i d) = true) (hA : ∀ W, Ext w W → Asks K c1 c2 l.length (fun i => !q (l.getD i d)) W) :
    Calls Try.prog 29 #[.int .i64 l.length, .func (.func K) #[] #[c1, c2]] w fun e w' => e = .returned (.int .i64 (cutN q l : Nat)) ∧ Ext w w' := by
  refine (Search_calls l.length K c1 c2 _ w hn hk hA).mono ?_
  rintro e w' ⟨r, rfl, h1, h2, h3, hE⟩
  have : r = cutN q l := by
    refine turn_one (p := fun i => !q (l.getD i d)) ?_ h1 (cutN_le q l) h2 h3 ?_ ?_
    · intro i j hij hj hi
      cases hq : q (l.getD j d) with
      | false => simp [hq]
      | true => rw [hm i j hij hj hq] at hi; cases hi
    · intro h
      have := cutN_in q d l (cutN q l - 1) (by omega)
      show (!q (l.getD (cutN q l - 1) d)) = false
      rw [this]
      rfl
    · intro h
      have := cutN_at q d l h
      show (!q (l.getD (cutN q l) d)) = true
      rw [this]
      rfl
  subst this
  exact ⟨rfl, hE⟩
def z3 : Int × Int × Int := (0, 0, 0)
def findM (x : IxM) (o : Int) : (Int × Int × Int) × Bool := entryM x ((cutN (fun e : Int × Int × Int => decide (e.1 ≤ o)) x.l : Nat) - 1)
def afterM (x : IxM) (t : Int) : (Int × Int × Int) × Bool := entryM x ((cutN (fun e : Int × Int × Int => decide (e.2.2 < t)) x.l : Nat) - 1)
def fromM (x : IxM) (o : Int) : Nat := cutN (fun e : Int × Int × Int => decide (e.1 < o)) x.l
/-- In order. -/
def Rising (l : List (Int × Int × Int)) : Prop := ∀ i j, i ≤ j → j < l.length → (l.getD i z3).1 ≤ (l.getD j z3).1 ∧ (l.getD i z3).2.2 ≤ (l.getD j z3).2.2
theorem entry_obj (e : Int × Int × Int) : entV e = .agg #[.int .i64 e.1, .int .i64 e.2.1, .int .i64 e.2.2] := rfl
set_option maxRecDepth 8000 in
set_option maxHeartbeats 4000000 in
theorem Find_calls (w : World) (B g : Nat) (v : Value) (x : IxM) (h : IxAt w B g v x) (o : Int) (hl : x.l.length ≤ 1099511627776) (hs : Rising x.l) :
    Calls Try.prog 12 #[.pointer (some ⟨g, 0, none⟩), .int .i64 o] w fun e w' => e = .returned (.tuple #[entV (findM x o).1, .bool (findM x o).2]) ∧ Ext w w' := by
  obtain ⟨z, hz⟩ : ∃ z, (findM x o).1 = z := ⟨_, rfl⟩
  obtain ⟨b, hb⟩ : ∃ b, (findM x o).2 = b := ⟨_, rfl⟩
  have hfind : ∀ W B', IxAt W B' g v x → Calls Try.prog 28 #[.pointer (some ⟨g, 0, none⟩), .int .i64 ((cutN (fun e : Int × Int × Int => decide (e.1 ≤ o)) x.l : Nat) - 1)] W fun e w' => e = .returned (.tuple #[.agg #[.int .i64 z.1, .int .i64 z.2.1, .int .i64 z.2.2], .bool b]) ∧ Ext W w' := by
    intro W B' hx
    have := entry_calls g B' v x W hx ((cutN (fun e : Int × Int × Int => decide (e.1 ≤ o)) x.l : Nat) - 1) (by have := cutN_le (fun e : Int × Int × Int => decide (e.1 ≤ o)) x.l; omega) (by omega)
    rw [← hz, ← hb]
    exact this
  rw [hz, hb]
  have hsearch : ∀ W B' bx bo, IxAt W B' g v x → W.cell? ⟨bx, 0, none⟩ = some (.pointer (some ⟨g, 0, none⟩)) → W.cell? ⟨bo, 0, none⟩ = some (.int .i64 o) → Calls Try.prog 29 #[.int .i64 x.l.length, .func (.func 30) #[] #[.pointer (some ⟨bx, 0, none⟩), .pointer (some ⟨bo, 0, none⟩)]] W fun e w' => e = .returned (.int .i64 (cutN (fun e : Int × Int × Int => decide (e.1 ≤ o)) x.l : Nat)) ∧ Ext W w' := by
    intro W B' bx bo hx h1 h2
    refine Search_cut (fun e : Int × Int × Int => decide (e.1 ≤ o)) z3 x.l _ _ _ W hl (enters_of Try.func30 (by kernel_rfl) (by kernel_rfl)) ?_ ?_
    · intro i j hij hj hq
      have := (hs i j hij hj).1
      simp only [decide_eq_true_eq] at hq ⊢
      omega
    · intro W' hE
      have := asks_find g B' bx bo o v x W' (hx.ext hE) (hE.cell h1) (hE.cell h2)
      intro i hi
      have h3 := this i hi
      have e : (!decide ((x.l.getD i z3).1 ≤ o)) = decide (o < (x.l.getD i (0, 0, 0)).1) := by
        show (!decide ((x.l.getD i (0, 0, 0)).1 ≤ o)) = _
        rw [← decide_not]
        simp only [Int.not_le]
      dsimp only
      rw [e]
      exact h3
  have Hf := Lib.hid hfind
  have Hs := Lib.hid hsearch
  clear hfind hsearch hz hb
  have hcn := cutN_le (fun e : Int × Int × Int => decide (e.1 ≤ o)) x.l
  generalize cutN (fun e : Int × Int × Int => decide (e.1 ≤ o)) x.l = r at *
  have hr63 : r ≤ 1099511627776 := by omega
  have hrw : IntKind.i64.wrap ((r : Int) - 1) = (r : Int) - 1 := by rw [IntKind.wrap_i64]; omega
  go_enter Try.func12, Try.ntmps12
  go_upto_region 3 with fail
  obtain ⟨w0, hw0⟩ : ∃ w0, (((w.alloc (.cells #[.pointer (some ⟨g, 0, none⟩)] 22)).alloc (.cells #[.int .i64 o] 2)).alloc (.cells #[.int .i64 0, .int .i64 0, .int .i64 0] 28)) = w0 := ⟨_, rfl⟩
  have hE0 : Ext w w0 := by rw [← hw0]; exact Ext.trans _ _ _ (Ext.trans _ _ _ (Ext.alloc _ _) (Ext.alloc _ _)) (Ext.alloc _ _)
  have hsz : w0.heap.size = w.heap.size + 3 := by rw [← hw0]; simp
  have hcx : w0.cell? ⟨w.heap.size, 0, none⟩ = some (.pointer (some ⟨g, 0, none⟩)) := by
    rw [← hw0]
    exact (Ext.trans _ _ _ (Ext.alloc _ _) (Ext.alloc _ _)).cell (cell_new0 w (.pointer (some ⟨g, 0, none⟩)) 22)
  have hco : w0.cell? ⟨w.heap.size + 1, 0, none⟩ = some (.int .i64 o) := by
    rw [← hw0]
    have := cell_new0 (w.alloc (.cells #[.pointer (some ⟨g, 0, none⟩)] 22)) (.int .i64 o) 2
    have h2 := (Ext.alloc ((w.alloc (.cells #[.pointer (some ⟨g, 0, none⟩)] 22)).alloc (.cells #[.int .i64 o] 2)) (.cells #[.int .i64 0, .int .i64 0, .int .i64 0] 28)).cell this
    simpa using h2
  have hcr : w0.heap[w.heap.size + 1 + 1]? = some (.cells #[.int .i64 0, .int .i64 0, .int .i64 0] 28 (0, 0)) := by
    rw [← hw0]
    have := heap_alloc_new ((w.alloc (.cells #[.pointer (some ⟨g, 0, none⟩)] 22)).alloc (.cells #[.int .i64 o] 2)) (.cells #[.int .i64 0, .int .i64 0, .int .i64 0] 28)
    simpa using this
  rw [hw0]
  have hx0 := h.ext hE0
  have hgs := h.lt
  have hvb := fun k (hk : v.ownBlock = some k) => (h.2.2.at hk).2
  obtain ⟨A, c, hv, hc, hm, hr⟩ := h.2.2.sl
  have hxW : ∀ W, One (w.heap.size + 1 + 1) (.cells #[.int .i64 z.1, .int .i64 z.2.1, .int .i64 z.2.2] 28 (0, 0)) w0 W → IxAt W B g v x := fun W hE => hx0.move hE.size fun k hk => hE.block k (by
    rcases hk with rfl | hk
    · omega
    · have := hvb k hk; omega) (by
    rcases hk with rfl | hk
    · omega
    · have := hvb k hk; omega)
  have hR : ∀ W, One (w.heap.size + 1 + 1) (.cells #[.int .i64 z.1, .int .i64 z.2.1, .int .i64 z.2.2] 28 (0, 0)) w0 W → w.heap.size + 1 + 1 < W.heap.size := fun W hE => by have := hE.size; omega
  subst hv
  clear hw0
  refine wp_region_stepsB (One (w.heap.size + 1 + 1) (.cells #[.int .i64 z.1, .int .i64 z.2.1, .int .i64 z.2.2] 28 (0, 0))) (One.refl (w.heap.size + 1 + 1) (.cells #[.int .i64 z.1, .int .i64 z.2.1, .int .i64 z.2.2] 28 (0, 0))) (One.trans (w.heap.size + 1 + 1) (.cells #[.int .i64 z.1, .int .i64 z.2.1, .int .i64 z.2.2] 28 (0, 0))) (One.drew (w.heap.size + 1 + 1) (.cells #[.int .i64 z.1, .int .i64 z.2.1, .int .i64 z.2.2] 28 (0, 0))) [.eq (.pointer (some ⟨g, 0, none⟩)), .eq (.pointer (some ⟨g, 0, none⟩)), .eq (.pointer (some ⟨g, 0, none⟩)), .eq (.pointer (some ⟨g, 4, none⟩)), .eq (.slice A x.l.length c), .eq (.int .i64 x.l.length), .eq (.func (.func 30) #[] #[.pointer (some ⟨w.heap.size, 0, none⟩), .pointer (some ⟨w.heap.size + 1, 0, none⟩)]), .eq (.int .i64 r), .eq (.int .i64 ((r : Int) - 1)), .eq (.tuple #[.agg #[.int .i64 z.1, .int .i64 z.2.1, .int .i64 z.2.2], .bool b]), .eq (.agg #[.int .i64 z.1, .int .i64 z.2.1, .int .i64 z.2.2]), .eq (.bool b), .done (w.heap.size + 1 + 1) (.cells #[.int .i64 z.1, .int .i64 z.2.1, .int .i64 z.2.2] 28 (0, 0)), .eq (.bool b)] (by kernel_rfl) (by kernel_rfl) (fun j o' hj hd v v' w h => by
  have hj2 := none_at (n := 12) (by kernel_rfl) hj hd
  subst hj2
  exact h) ?_ ?_
  · refine ⟨?_, ?_, ?_, ?_, ?_, ?_, ?_, ?_, ?_, ?_, ?_, ?_, ?_, ?_, trivial⟩
    · intro S W K hE hf hd hK
      have f2 : S.tmps.getD 2 undef = .pointer (some ⟨w.heap.size, 0, none⟩) := hf 2 (by kernel_rfl)
      refine want_free rfl ?_
      rw [Array.getD_eq_getD_getElem?] at f2
      have hc1 := hE.cell hcx (show w.heap.size ≠ w.heap.size + 1 + 1 by omega)
      go_simp
      exact hK _ _ (One.refl _ _ _) rfl
    · intro S W K hE hf hd hK
      have f2 : S.tmps.getD 2 undef = .pointer (some ⟨w.heap.size, 0, none⟩) := hf 2 (by kernel_rfl)
      refine want_free rfl ?_
      rw [Array.getD_eq_getD_getElem?] at f2
      have hc1 := hE.cell hcx (show w.heap.size ≠ w.heap.size + 1 + 1 by omega)
      go_simp
      exact hK _ _ (One.refl _ _ _) rfl
    · intro S W K hE hf hd hK
      have d10 : S.tmps.getD 10 undef = (.pointer (some ⟨g, 0, none⟩)) := hd 1 _ rfl (by kernel_rfl)
      refine want_free rfl ?_
      rw [Array.getD_eq_getD_getElem?] at d10
      go_simp
      exact hK _ _ (One.refl (w.heap.size + 1 + 1) (.cells #[.int .i64 z.1, .int .i64 z.2.1, .int .i64 z.2.2] 28 (0, 0)) _) (rfl)
    · intro S W K hE hf hd hK
      have d11 : S.tmps.getD 11 undef = (.pointer (some ⟨g, 0, none⟩)) := hd 2 _ rfl (by kernel_rfl)
      refine want_free rfl ?_
      rw [Array.getD_eq_getD_getElem?] at d11
      go_simp
      exact hK _ _ (One.refl (w.heap.size + 1 + 1) (.cells #[.int .i64 z.1, .int .i64 z.2.1, .int .i64 z.2.2] 28 (0, 0)) _) (rfl)
    · intro S W K hE hf hd hK
      have d12 : S.tmps.getD 12 undef = (.pointer (some ⟨g, 4, none⟩)) := hd 3 _ rfl (by kernel_rfl)
      refine want_free rfl ?_
      rw [Array.getD_eq_getD_getElem?] at d12
      have hc1 := (hxW W hE).cells.2.2.2.2
      go_simp
      exact hK _ _ (One.refl _ _ _) rfl
    · intro S W K hE hf hd hK
      have d13 : S.tmps.getD 13 undef = (.slice A x.l.length c) := hd 4 _ rfl (by kernel_rfl)
      refine want_free rfl ?_
      rw [Array.getD_eq_getD_getElem?] at d13
      go_simp
      exact hK _ _ (One.refl (w.heap.size + 1 + 1) (.cells #[.int .i64 z.1, .int .i64 z.2.1, .int .i64 z.2.2] 28 (0, 0)) _) (rfl)
    · intro S W K hE hf hd hK
      have f2 : S.tmps.getD 2 undef = .pointer (some ⟨w.heap.size, 0, none⟩) := hf 2 (by kernel_rfl)
      have f3 : S.tmps.getD 3 undef = .pointer (some ⟨w.heap.size + 1, 0, none⟩) := hf 3 (by kernel_rfl)
      refine want_free rfl ?_
      rw [Array.getD_eq_getD_getElem?] at f2 f3
      go_simp
      exact hK _ _ (One.refl (w.heap.size + 1 + 1) (.cells #[.int .i64 z.1, .int .i64 z.2.1, .int .i64 z.2.2] 28 (0, 0)) _) (rfl)
    · intro S W K hE hf hd hK
      have d14 : S.tmps.getD 14 undef = (.int .i64 x.l.length) := hd 5 _ rfl (by kernel_rfl)
      have d15 : S.tmps.getD 15 undef = (.func (.func 30) #[] #[.pointer (some ⟨w.heap.size, 0, none⟩), .pointer (some ⟨w.heap.size + 1, 0, none⟩)]) := hd 6 _ rfl (by kernel_rfl)
      refine want_free rfl ?_
      rw [Array.getD_eq_getD_getElem?] at d14 d15
      have hc1 := hE.cell hcx (show w.heap.size ≠ w.heap.size + 1 + 1 by omega)
      have hc2 := hE.cell hco (show w.heap.size + 1 ≠ w.heap.size + 1 + 1 by omega)
      go_simp
      refine (Hs.out W B _ _ (hxW W hE) hc1 hc2).mono ?_
      rintro e W' ⟨rfl, hb⟩
      exact hK _ _ (One.of (hR W hE) hb) rfl
    · intro S W K hE hf hd hK
      have d16 : S.tmps.getD 16 undef = (.int .i64 r) := hd 7 _ rfl (by kernel_rfl)
      refine want_free rfl ?_
      rw [Array.getD_eq_getD_getElem?] at d16
      go_simp
      exact hK _ _ (One.refl (w.heap.size + 1 + 1) (.cells #[.int .i64 z.1, .int .i64 z.2.1, .int .i64 z.2.2] 28 (0, 0)) _) (rfl)
    · intro S W K hE hf hd hK
      have d9 : S.tmps.getD 9 undef = (.pointer (some ⟨g, 0, none⟩)) := hd 0 _ rfl (by kernel_rfl)
      have d17 : S.tmps.getD 17 undef = (.int .i64 ((r : Int) - 1)) := hd 8 _ rfl (by kernel_rfl)
      refine want_free rfl ?_
      rw [Array.getD_eq_getD_getElem?] at d9 d17
      go_simp
      refine (Hf.out W B (hxW W hE)).mono ?_
      rintro e W' ⟨rfl, hb⟩
      exact hK _ _ (One.of (hR W hE) hb) rfl
    · intro S W K hE hf hd hK
      have d18 : S.tmps.getD 18 undef = (.tuple #[.agg #[.int .i64 z.1, .int .i64 z.2.1, .int .i64 z.2.2], .bool b]) := hd 9 _ rfl (by kernel_rfl)
      refine want_free rfl ?_
      rw [Array.getD_eq_getD_getElem?] at d18
      go_simp
      exact hK _ _ (One.refl (w.heap.size + 1 + 1) (.cells #[.int .i64 z.1, .int .i64 z.2.1, .int .i64 z.2.2] 28 (0, 0)) _) (rfl)
    · intro S W K hE hf hd hK
      have d18 : S.tmps.getD 18 undef = (.tuple #[.agg #[.int .i64 z.1, .int .i64 z.2.1, .int .i64 z.2.2], .bool b]) := hd 9 _ rfl (by kernel_rfl)
      refine want_free rfl ?_
      rw [Array.getD_eq_getD_getElem?] at d18
      go_simp
      exact hK _ _ (One.refl (w.heap.size + 1 + 1) (.cells #[.int .i64 z.1, .int .i64 z.2.1, .int .i64 z.2.2] 28 (0, 0)) _) (rfl)
    · intro S W K hE hf hd hK
      have f4 : S.tmps.getD 4 undef = .pointer (some ⟨w.heap.size + 1 + 1, 0, none⟩) := hf 4 (by kernel_rfl)
      have d19 : S.tmps.getD 19 undef = (.agg #[.int .i64 z.1, .int .i64 z.2.1, .int .i64 z.2.2]) := hd 10 _ rfl (by kernel_rfl)
      refine want_free rfl ?_
      rw [Array.getD_eq_getD_getElem?] at f4 d19
      obtain ⟨q0, q1, q2, hh⟩ : ∃ q0 q1 q2, W.heap[w.heap.size + 1 + 1]? = some (.cells #[q0, q1, q2] 28 (0, 0)) := by
        rcases hE.one with e | e
        · exact ⟨_, _, _, e.trans hcr⟩
        · exact ⟨_, _, _, e⟩
      obtain ⟨p1, p2, p3, p4, p5, p6, p7, p8⟩ := put3 W _ _ _ _ (.int .i64 z.1) (.int .i64 z.2.1) (.int .i64 z.2.2) _ hh
      go_simp
      exact hK undef _ p8 p7
    · intro S W K hE hf hd hK
      have d20 : S.tmps.getD 20 undef = (.bool b) := hd 11 _ rfl (by kernel_rfl)
      refine want_free rfl ?_
      rw [Array.getD_eq_getD_getElem?] at d20
      go_simp
      exact hK _ _ (One.refl (w.heap.size + 1 + 1) (.cells #[.int .i64 z.1, .int .i64 z.2.1, .int .i64 z.2.2] 28 (0, 0)) _) (rfl)
  · intro vs W hE hV
    have v0 : vs 0 = (.pointer (some ⟨g, 0, none⟩)) := hV 0 _ rfl
    have v1 : vs 1 = (.pointer (some ⟨g, 0, none⟩)) := hV 1 _ rfl
    have v2 : vs 2 = (.pointer (some ⟨g, 0, none⟩)) := hV 2 _ rfl
    have v3 : vs 3 = (.pointer (some ⟨g, 4, none⟩)) := hV 3 _ rfl
    have v4 : vs 4 = (.slice A x.l.length c) := hV 4 _ rfl
    have v5 : vs 5 = (.int .i64 x.l.length) := hV 5 _ rfl
    have v6 : vs 6 = (.func (.func 30) #[] #[.pointer (some ⟨w.heap.size, 0, none⟩), .pointer (some ⟨w.heap.size + 1, 0, none⟩)]) := hV 6 _ rfl
    have v7 : vs 7 = (.int .i64 r) := hV 7 _ rfl
    have v8 : vs 8 = (.int .i64 ((r : Int) - 1)) := hV 8 _ rfl
    have v9 : vs 9 = (.tuple #[.agg #[.int .i64 z.1, .int .i64 z.2.1, .int .i64 z.2.2], .bool b]) := hV 9 _ rfl
    have v10 : vs 10 = (.agg #[.int .i64 z.1, .int .i64 z.2.1, .int .i64 z.2.2]) := hV 10 _ rfl
    have v11 : vs 11 = (.bool b) := hV 11 _ rfl
    have v12 := hV 12 _ rfl
    have v13 : vs 13 = (.bool b) := hV 13 _ rfl
    clear hV
    set_option maxRecDepth 100000 in simp only [putAll, List.map_cons, List.map_nil, List.length_cons, List.length_nil, Nat.reduceAdd, List.range_succ, List.range_zero, List.nil_append, List.cons_append]
    set_option maxRecDepth 100000 in go_simp
    have hst : W.heap[w.heap.size + 1 + 1]? = some (.cells #[.int .i64 z.1, .int .i64 z.2.1, .int .i64 z.2.2] 28 (0, 0)) := v12
    clear v0 v1 v2 v3 v4 v5 v6 v7 v8 v9 v10 v11 v12 v13
    go_wp2
    refine bodyPost_ret (results_cell2 rfl _ _ _ ⟨w.heap.size + 1 + 1, 0, none⟩ rfl (load_ent _ _ _ _ _ hst)) rfl ?_
    exact ⟨rfl, hE.ext hE0 (by omega)⟩
set_option maxRecDepth 8000 in
set_option maxHeartbeats 4000000 in
theorem After_calls (w : World) (B g : Nat) (v : Value) (x : IxM) (h : IxAt w B g v x) (o : Int) (hl : x.l.length ≤ 1099511627776) (hs : Rising x.l) :
    Calls Try.prog 16 #[.pointer (some ⟨g, 0, none⟩), .int .i64 o] w fun e w' => e = .returned (.tuple #[entV (afterM x o).1, .bool (afterM x o).2]) ∧ Ext w w' := by
  obtain ⟨z, hz⟩ : ∃ z, (afterM x o).1 = z := ⟨_, rfl⟩
  obtain ⟨b, hb⟩ : ∃ b, (afterM x o).2 = b := ⟨_, rfl⟩
  have hfind : ∀ W B', IxAt W B' g v x → Calls Try.prog 28 #[.pointer (some ⟨g, 0, none⟩), .int .i64 ((cutN (fun e : Int × Int × Int => decide (e.2.2 < o)) x.l : Nat) - 1)] W fun e w' => e = .returned (.tuple #[.agg #[.int .i64 z.1, .int .i64 z.2.1, .int .i64 z.2.2], .bool b]) ∧ Ext W w' := by
    intro W B' hx
    have := entry_calls g B' v x W hx ((cutN (fun e : Int × Int × Int => decide (e.2.2 < o)) x.l : Nat) - 1) (by have := cutN_le (fun e : Int × Int × Int => decide (e.2.2 < o)) x.l; omega) (by omega)
    rw [← hz, ← hb]
    exact this
  rw [hz, hb]
  have hsearch : ∀ W B' bx bo, IxAt W B' g v x → W.cell? ⟨bx, 0, none⟩ = some (.pointer (some ⟨g, 0, none⟩)) → W.cell? ⟨bo, 0, none⟩ = some (.int .i64 o) → Calls Try.prog 29 #[.int .i64 x.l.length, .func (.func 31) #[] #[.pointer (some ⟨bx, 0, none⟩), .pointer (some ⟨bo, 0, none⟩)]] W fun e w' => e = .returned (.int .i64 (cutN (fun e : Int × Int × Int => decide (e.2.2 < o)) x.l : Nat)) ∧ Ext W w' := by
    intro W B' bx bo hx h1 h2
    refine Search_cut (fun e : Int × Int × Int => decide (e.2.2 < o)) z3 x.l _ _ _ W hl (enters_of Try.func31 (by kernel_rfl) (by kernel_rfl)) ?_ ?_
    · intro i j hij hj hq
      have := (hs i j hij hj).2
      simp only [decide_eq_true_eq] at hq ⊢
      omega
    · intro W' hE
      have := asks_after g B' bx bo o v x W' (hx.ext hE) (hE.cell h1) (hE.cell h2)
      intro i hi
      have h3 := this i hi
      have e : (!decide ((x.l.getD i z3).2.2 < o)) = decide (o ≤ (x.l.getD i (0, 0, 0)).2.2) := by
        show (!decide ((x.l.getD i (0, 0, 0)).2.2 < o)) = _
        rw [← decide_not]
        simp only [Int.not_lt]
      dsimp only
      rw [e]
      exact h3
  have Hf := Lib.hid hfind
  have Hs := Lib.hid hsearch
  clear hfind hsearch hz hb
  have hcn := cutN_le (fun e : Int × Int × Int => decide (e.2.2 < o)) x.l
  generalize cutN (fun e : Int × Int × Int => decide (e.2.2 < o)) x.l = r at *
  have hr63 : r ≤ 1099511627776 := by omega
  have hrw : IntKind.i64.wrap ((r : Int) - 1) = (r : Int) - 1 := by rw [IntKind.wrap_i64]; omega
  go_enter Try.func16, Try.ntmps16
  go_upto_region 3 with fail
  obtain ⟨w0, hw0⟩ : ∃ w0, (((w.alloc (.cells #[.pointer (some ⟨g, 0, none⟩)] 22)).alloc (.cells #[.int .i64 o] 2)).alloc (.cells #[.int .i64 0, .int .i64 0, .int .i64 0] 28)) = w0 := ⟨_, rfl⟩
  have hE0 : Ext w w0 := by rw [← hw0]; exact Ext.trans _ _ _ (Ext.trans _ _ _ (Ext.alloc _ _) (Ext.alloc _ _)) (Ext.alloc _ _)
  have hsz : w0.heap.size = w.heap.size + 3 := by rw [← hw0]; simp
  have hcx : w0.cell? ⟨w.heap.size, 0, none⟩ = some (.pointer (some ⟨g, 0, none⟩)) := by
    rw [← hw0]
    exact (Ext.trans _ _ _ (Ext.alloc _ _) (Ext.alloc _ _)).cell (cell_new0 w (.pointer (some ⟨g, 0, none⟩)) 22)
  have hco : w0.cell? ⟨w.heap.size + 1, 0, none⟩ = some (.int .i64 o) := by
    rw [← hw0]
    have := cell_new0 (w.alloc (.cells #[.pointer (some ⟨g, 0, none⟩)] 22)) (.int .i64 o) 2
    have h2 := (Ext.alloc ((w.alloc (.cells #[.pointer (some ⟨g, 0, none⟩)] 22)).alloc (.cells #[.int .i64 o] 2)) (.cells #[.int .i64 0, .int .i64 0, .int .i64 0] 28)).cell this
    simpa using h2
  have hcr : w0.heap[w.heap.size + 1 + 1]? = some (.cells #[.int .i64 0, .int .i64 0, .int .i64 0] 28 (0, 0)) := by
    rw [← hw0]
    have := heap_alloc_new ((w.alloc (.cells #[.pointer (some ⟨g, 0, none⟩)] 22)).alloc (.cells #[.int .i64 o] 2)) (.cells #[.int .i64 0, .int .i64 0, .int .i64 0] 28)
    simpa using this
  rw [hw0]
  have hx0 := h.ext hE0
  have hgs := h.lt
  have hvb := fun k (hk : v.ownBlock = some k) => (h.2.2.at hk).2
  obtain ⟨A, c, hv, hc, hm, hr⟩ := h.2.2.sl
  have hxW : ∀ W, One (w.heap.size + 1 + 1) (.cells #[.int .i64 z.1, .int .i64 z.2.1, .int .i64 z.2.2] 28 (0, 0)) w0 W → IxAt W B g v x := fun W hE => hx0.move hE.size fun k hk => hE.block k (by
    rcases hk with rfl | hk
    · omega
    · have := hvb k hk; omega) (by
    rcases hk with rfl | hk
    · omega
    · have := hvb k hk; omega)
  have hR : ∀ W, One (w.heap.size + 1 + 1) (.cells #[.int .i64 z.1, .int .i64 z.2.1, .int .i64 z.2.2] 28 (0, 0)) w0 W → w.heap.size + 1 + 1 < W.heap.size := fun W hE => by have := hE.size; omega
  subst hv
  clear hw0
  refine wp_region_stepsB (One (w.heap.size + 1 + 1) (.cells #[.int .i64 z.1, .int .i64 z.2.1, .int .i64 z.2.2] 28 (0, 0))) (One.refl (w.heap.size + 1 + 1) (.cells #[.int .i64 z.1, .int .i64 z.2.1, .int .i64 z.2.2] 28 (0, 0))) (One.trans (w.heap.size + 1 + 1) (.cells #[.int .i64 z.1, .int .i64 z.2.1, .int .i64 z.2.2] 28 (0, 0))) (One.drew (w.heap.size + 1 + 1) (.cells #[.int .i64 z.1, .int .i64 z.2.1, .int .i64 z.2.2] 28 (0, 0))) [.eq (.pointer (some ⟨g, 0, none⟩)), .eq (.pointer (some ⟨g, 0, none⟩)), .eq (.pointer (some ⟨g, 0, none⟩)), .eq (.pointer (some ⟨g, 4, none⟩)), .eq (.slice A x.l.length c), .eq (.int .i64 x.l.length), .eq (.func (.func 31) #[] #[.pointer (some ⟨w.heap.size, 0, none⟩), .pointer (some ⟨w.heap.size + 1, 0, none⟩)]), .eq (.int .i64 r), .eq (.int .i64 ((r : Int) - 1)), .eq (.tuple #[.agg #[.int .i64 z.1, .int .i64 z.2.1, .int .i64 z.2.2], .bool b]), .eq (.agg #[.int .i64 z.1, .int .i64 z.2.1, .int .i64 z.2.2]), .eq (.bool b), .done (w.heap.size + 1 + 1) (.cells #[.int .i64 z.1, .int .i64 z.2.1, .int .i64 z.2.2] 28 (0, 0)), .eq (.bool b)] (by kernel_rfl) (by kernel_rfl) (fun j o' hj hd v v' w h => by
  have hj2 := none_at (n := 12) (by kernel_rfl) hj hd
  subst hj2
  exact h) ?_ ?_
  · refine ⟨?_, ?_, ?_, ?_, ?_, ?_, ?_, ?_, ?_, ?_, ?_, ?_, ?_, ?_, trivial⟩
    · intro S W K hE hf hd hK
      have f2 : S.tmps.getD 2 undef = .pointer (some ⟨w.heap.size, 0, none⟩) := hf 2 (by kernel_rfl)
      refine want_free rfl ?_
      rw [Array.getD_eq_getD_getElem?] at f2
      have hc1 := hE.cell hcx (show w.heap.size ≠ w.heap.size + 1 + 1 by omega)
      go_simp
      exact hK _ _ (One.refl _ _ _) rfl
    · intro S W K hE hf hd hK
      have f2 : S.tmps.getD 2 undef = .pointer (some ⟨w.heap.size, 0, none⟩) := hf 2 (by kernel_rfl)
      refine want_free rfl ?_
      rw [Array.getD_eq_getD_getElem?] at f2
      have hc1 := hE.cell hcx (show w.heap.size ≠ w.heap.size + 1 + 1 by omega)
      go_simp
      exact hK _ _ (One.refl _ _ _) rfl
    · intro S W K hE hf hd hK
      have d10 : S.tmps.getD 10 undef = (.pointer (some ⟨g, 0, none⟩)) := hd 1 _ rfl (by kernel_rfl)
      refine want_free rfl ?_
      rw [Array.getD_eq_getD_getElem?] at d10
      go_simp
      exact hK _ _ (One.refl (w.heap.size + 1 + 1) (.cells #[.int .i64 z.1, .int .i64 z.2.1, .int .i64 z.2.2] 28 (0, 0)) _) (rfl)
    · intro S W K hE hf hd hK
      have d11 : S.tmps.getD 11 undef = (.pointer (some ⟨g, 0, none⟩)) := hd 2 _ rfl (by kernel_rfl)
      refine want_free rfl ?_
      rw [Array.getD_eq_getD_getElem?] at d11
      go_simp
      exact hK _ _ (One.refl (w.heap.size + 1 + 1) (.cells #[.int .i64 z.1, .int .i64 z.2.1, .int .i64 z.2.2] 28 (0, 0)) _) (rfl)
    · intro S W K hE hf hd hK
      have d12 : S.tmps.getD 12 undef = (.pointer (some ⟨g, 4, none⟩)) := hd 3 _ rfl (by kernel_rfl)
      refine want_free rfl ?_
      rw [Array.getD_eq_getD_getElem?] at d12
      have hc1 := (hxW W hE).cells.2.2.2.2
      go_simp
      exact hK _ _ (One.refl _ _ _) rfl
    · intro S W K hE hf hd hK
      have d13 : S.tmps.getD 13 undef = (.slice A x.l.length c) := hd 4 _ rfl (by kernel_rfl)
      refine want_free rfl ?_
      rw [Array.getD_eq_getD_getElem?] at d13
      go_simp
      exact hK _ _ (One.refl (w.heap.size + 1 + 1) (.cells #[.int .i64 z.1, .int .i64 z.2.1, .int .i64 z.2.2] 28 (0, 0)) _) (rfl)
    · intro S W K hE hf hd hK
      have f2 : S.tmps.getD 2 undef = .pointer (some ⟨w.heap.size, 0, none⟩) := hf 2 (by kernel_rfl)
      have f3 : S.tmps.getD 3 undef = .pointer (some ⟨w.heap.size + 1, 0, none⟩) := hf 3 (by kernel_rfl)
      refine want_free rfl ?_
      rw [Array.getD_eq_getD_getElem?] at f2 f3
      go_simp
      exact hK _ _ (One.refl (w.heap.size + 1 + 1) (.cells #[.int .i64 z.1, .int .i64 z.2.1, .int .i64 z.2.2] 28 (0, 0)) _) (rfl)
    · intro S W K hE hf hd hK
      have d14 : S.tmps.getD 14 undef = (.int .i64 x.l.length) := hd 5 _ rfl (by kernel_rfl)
      have d15 : S.tmps.getD 15 undef = (.func (.func 31) #[] #[.pointer (some ⟨w.heap.size, 0, none⟩), .pointer (some ⟨w.heap.size + 1, 0, none⟩)]) := hd 6 _ rfl (by kernel_rfl)
      refine want_free rfl ?_
      rw [Array.getD_eq_getD_getElem?] at d14 d15
      have hc1 := hE.cell hcx (show w.heap.size ≠ w.heap.size + 1 + 1 by omega)
      have hc2 := hE.cell hco (show w.heap.size + 1 ≠ w.heap.size + 1 + 1 by omega)
      go_simp
      refine (Hs.out W B _ _ (hxW W hE) hc1 hc2).mono ?_
      rintro e W' ⟨rfl, hb⟩
      exact hK _ _ (One.of (hR W hE) hb) rfl
    · intro S W K hE hf hd hK
      have d16 : S.tmps.getD 16 undef = (.int .i64 r) := hd 7 _ rfl (by kernel_rfl)
      refine want_free rfl ?_
      rw [Array.getD_eq_getD_getElem?] at d16
      go_simp
      exact hK _ _ (One.refl (w.heap.size + 1 + 1) (.cells #[.int .i64 z.1, .int .i64 z.2.1, .int .i64 z.2.2] 28 (0, 0)) _) (rfl)
    · intro S W K hE hf hd hK
      have d9 : S.tmps.getD 9 undef = (.pointer (some ⟨g, 0, none⟩)) := hd 0 _ rfl (by kernel_rfl)
      have d17 : S.tmps.getD 17 undef = (.int .i64 ((r : Int) - 1)) := hd 8 _ rfl (by kernel_rfl)
      refine want_free rfl ?_
      rw [Array.getD_eq_getD_getElem?] at d9 d17
      go_simp
      refine (Hf.out W B (hxW W hE)).mono ?_
      rintro e W' ⟨rfl, hb⟩
      exact hK _ _ (One.of (hR W hE) hb) rfl
    · intro S W K hE hf hd hK
      have d18 : S.tmps.getD 18 undef = (.tuple #[.agg #[.int .i64 z.1, .int .i64 z.2.1, .int .i64 z.2.2], .bool b]) := hd 9 _ rfl (by kernel_rfl)
      refine want_free rfl ?_
      rw [Array.getD_eq_getD_getElem?] at d18
      go_simp
      exact hK _ _ (One.refl (w.heap.size + 1 + 1) (.cells #[.int .i64 z.1, .int .i64 z.2.1, .int .i64 z.2.2] 28 (0, 0)) _) (rfl)
    · intro S W K hE hf hd hK
      have d18 : S.tmps.getD 18 undef = (.tuple #[.agg #[.int .i64 z.1, .int .i64 z.2.1, .int .i64 z.2.2], .bool b]) := hd 9 _ rfl (by kernel_rfl)
      refine want_free rfl ?_
      rw [Array.getD_eq_getD_getElem?] at d18
      go_simp
      exact hK _ _ (One.refl (w.heap.size + 1 + 1) (.cells #[.int .i64 z.1, .int .i64 z.2.1, .int .i64 z.2.2] 28 (0, 0)) _) (rfl)
    · intro S W K hE hf hd hK
      have f4 : S.tmps.getD 4 undef = .pointer (some ⟨w.heap.size + 1 + 1, 0, none⟩) := hf 4 (by kernel_rfl)
      have d19 : S.tmps.getD 19 undef = (.agg #[.int .i64 z.1, .int .i64 z.2.1, .int .i64 z.2.2]) := hd 10 _ rfl (by kernel_rfl)
      refine want_free rfl ?_
      rw [Array.getD_eq_getD_getElem?] at f4 d19
      obtain ⟨q0, q1, q2, hh⟩ : ∃ q0 q1 q2, W.heap[w.heap.size + 1 + 1]? = some (.cells #[q0, q1, q2] 28 (0, 0)) := by
        rcases hE.one with e | e
        · exact ⟨_, _, _, e.trans hcr⟩
        · exact ⟨_, _, _, e⟩
      obtain ⟨p1, p2, p3, p4, p5, p6, p7, p8⟩ := put3 W _ _ _ _ (.int .i64 z.1) (.int .i64 z.2.1) (.int .i64 z.2.2) _ hh
      go_simp
      exact hK undef _ p8 p7
    · intro S W K hE hf hd hK
      have d20 : S.tmps.getD 20 undef = (.bool b) := hd 11 _ rfl (by kernel_rfl)
      refine want_free rfl ?_
      rw [Array.getD_eq_getD_getElem?] at d20
      go_simp
      exact hK _ _ (One.refl (w.heap.size + 1 + 1) (.cells #[.int .i64 z.1, .int .i64 z.2.1, .int .i64 z.2.2] 28 (0, 0)) _) (rfl)
  · intro vs W hE hV
    have v0 : vs 0 = (.pointer (some ⟨g, 0, none⟩)) := hV 0 _ rfl
    have v1 : vs 1 = (.pointer (some ⟨g, 0, none⟩)) := hV 1 _ rfl
    have v2 : vs 2 = (.pointer (some ⟨g, 0, none⟩)) := hV 2 _ rfl
    have v3 : vs 3 = (.pointer (some ⟨g, 4, none⟩)) := hV 3 _ rfl
    have v4 : vs 4 = (.slice A x.l.length c) := hV 4 _ rfl
    have v5 : vs 5 = (.int .i64 x.l.length) := hV 5 _ rfl
    have v6 : vs 6 = (.func (.func 31) #[] #[.pointer (some ⟨w.heap.size, 0, none⟩), .pointer (some ⟨w.heap.size + 1, 0, none⟩)]) := hV 6 _ rfl
    have v7 : vs 7 = (.int .i64 r) := hV 7 _ rfl
    have v8 : vs 8 = (.int .i64 ((r : Int) - 1)) := hV 8 _ rfl
    have v9 : vs 9 = (.tuple #[.agg #[.int .i64 z.1, .int .i64 z.2.1, .int .i64 z.2.2], .bool b]) := hV 9 _ rfl
    have v10 : vs 10 = (.agg #[.int .i64 z.1, .int .i64 z.2.1, .int .i64 z.2.2]) := hV 10 _ rfl
    have v11 : vs 11 = (.bool b) := hV 11 _ rfl
    have v12 := hV 12 _ rfl
    have v13 : vs 13 = (.bool b) := hV 13 _ rfl
    clear hV
    set_option maxRecDepth 100000 in simp only [putAll, List.map_cons, List.map_nil, List.length_cons, List.length_nil, Nat.reduceAdd, List.range_succ, List.range_zero, List.nil_append, List.cons_append]
    set_option maxRecDepth 100000 in go_simp
    have hst : W.heap[w.heap.size + 1 + 1]? = some (.cells #[.int .i64 z.1, .int .i64 z.2.1, .int .i64 z.2.2] 28 (0, 0)) := v12
    clear v0 v1 v2 v3 v4 v5 v6 v7 v8 v9 v10 v11 v12 v13
    go_wp2
    refine bodyPost_ret (results_cell2 rfl _ _ _ ⟨w.heap.size + 1 + 1, 0, none⟩ rfl (load_ent _ _ _ _ _ hst)) rfl ?_
    exact ⟨rfl, hE.ext hE0 (by omega)⟩
end Go.Proofs.Ytklbbpicfhalcaa
