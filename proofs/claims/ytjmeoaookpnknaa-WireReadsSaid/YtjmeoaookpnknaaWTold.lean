/- Contract: told. -/
import Derived.Test.YtjmeoaookpnknaaWItem
import Derived.Test.YtjmeoaookpnknaaRegion2
set_option linter.unusedVariables false
set_option linter.unusedSimpArgs false
namespace Go.Proofs.Ytjmeoaookpnknaa
open Go Go.RowKit

/-- Bytes that are read, in blocks from B on. -/
def Rd (w : World) (B : Nat) (v : Value) (l : List UInt8) : Prop := ∃ A c, v = .slice A l.length c ∧ l.length ≤ c ∧ c ≤ maxLen ∧ Row kb w (fun k => B ≤ k ∧ k < w.heap.size) A l
theorem Rd.ext {w w' : World} {B : Nat} {v : Value} {l : List UInt8} (h : Rd w B v l) (hE : Ext w w') : Rd w' B v l := by
  obtain ⟨A, c, e, h1, h2, hr⟩ := h
  exact ⟨A, c, e, h1, h2, (hr.move fun k hk => hE.block k hk.2).mono fun k hk => ⟨hk.1, Nat.lt_of_lt_of_le hk.2 hE.size⟩⟩
theorem Rd.lower {w : World} {B B' : Nat} {v : Value} {l : List UInt8} (h : Rd w B v l) (hB : B' ≤ B) : Rd w B' v l := by
  obtain ⟨A, c, e, h1, h2, hr⟩ := h
  exact ⟨A, c, e, h1, h2, hr.mono fun k hk => ⟨Nat.le_trans hB hk.1, hk.2⟩⟩
theorem Rd.of {w : World} {B : Nat} {F : Nat → Prop} {e : TypeId} {v : Value} {l : List UInt8} (h : Own kb e w B (fun _ => False) v l) : Rd w B v l := by
  have hat := fun k (hk : v.ownBlock = some k) => h.at hk
  obtain ⟨A, c, e, h1, h2, hr⟩ := h.sl
  exact ⟨A, c, e, h1, h2, hr.mono fun k hk => hat k (hk.resolve_left id)⟩
theorem Rd.nil (w : World) (B : Nat) : Rd w B (.slice none 0 0) [] := ⟨none, 0, rfl, Nat.le_refl _, Nat.zero_le _, Row.nil _ _ _ _⟩
def SP.own (B : Nat) (l : List UInt8) : SP Ext := ⟨fun v w => Rd w B v l, fun h hE => h.ext hE⟩
def tellM (x : ItM) : List UInt8 :=
  if x.kind = 0 then encN x.u else if x.kind = 1 then encN (zig x.n) else if x.kind = 2 then encT x.s else if x.kind = 3 then [if x.on then 1 else 0] else if x.kind = 4 then encTs x.l else if x.kind = 5 then encIs x.i else []
def toldB (x : ItM) : Bool := decide (0 ≤ x.kind ∧ x.kind ≤ 5)
def ToldIt (w : World) (x : ItM) (e : Ending) (w' : World) : Prop := ∃ va vb, e = .returned (.tuple #[va, vb, .bool (toldB x)]) ∧ Rd w' w.heap.size va (tellM x) ∧ Rd w' w.heap.size vb (tellM x) ∧ Below w.heap.size w w'
theorem encT_len (s : ByteArray) (h : s.size ≤ 300) : (encT s).length ≤ 310 := by
  have h1 := (encN_len s.size (by omega)).2
  have h2 : s.data.toList.length = s.size := Array.length_toList
  unfold encT
  rw [List.length_append, h2]
  omega
theorem flat_le {α : Type} (f : α → List UInt8) (b : Nat) : ∀ (l : List α), (∀ a ∈ l, (f a).length ≤ b) → (l.map f).flatten.length ≤ b * l.length
  | [], _ => Nat.zero_le _
  | a :: l, h => by
    have h1 := h a (List.mem_cons_self ..)
    have h2 := flat_le f b l fun x hx => h x (List.mem_cons_of_mem _ hx)
    simp only [List.map_cons, List.flatten_cons, List.length_append, List.length_cons]
    rw [Nat.mul_succ]
    omega
set_option maxRecDepth 100000 in
set_option maxHeartbeats 8000000 in
theorem told_calls (w : World) (x : ItM) (Al : Option Addr) (cl : Nat) (Ai : Option Addr) (ci : Nat) (h : ItAt w w.heap.size x Al cl Ai ci) (hsh : Short x) :
    Calls Try.prog 12 #[.agg (itC x Al cl Ai ci)] w (ToldIt w x) := by
  have hok := h.ok
  have hs' : x.s.size ≤ 70368744177664 := by have := hsh.s; omega
  have hl63 : x.l.length ≤ maxLen := by have := hsh.l.1; simp only [maxLen]; omega
  have hi63 : x.i.length ≤ maxLen := by have := hsh.i; simp only [maxLen]; omega
  have htl : (x.l.map encT).flatten.length ≤ 70368744177664 := by
    have := flat_le encT 310 x.l (fun s hs => encT_len s (by have := hsh.l.2 s hs; omega))
    have := hsh.l.1
    omega
  have hti : (x.i.map fun i => encN (zig i)).flatten.length ≤ 70368744177664 := by
    have := flat_le (fun i => encN (zig i)) 10 x.i (fun i hi => by
      obtain ⟨k, hk, rfl⟩ := List.mem_iff_getElem.1 hi
      obtain ⟨_, _, _, hwf⟩ := h.i.num_at' k hk
      exact (encN_len _ (zig_lt (i64_of_wf hwf))).2)
    have := hsh.i
    omega
  have hE0 := Ext.alloc w (.cells (itC x Al cl Ai ci) 33)
  have hsz := hE0.size
  have hp0 := heap_alloc_new w (.cells (itC x Al cl Ai ci) 33)
  have hrl := fun W (hE : Ext (w.alloc (.cells (itC x Al cl Ai ci) 33)) W) => h.l.belowF (B := w.heap.size) (fun _ h => h) (Ext.trans _ _ _ hE0 hE)
  have hri := fun W (hE : Ext (w.alloc (.cells (itC x Al cl Ai ci) 33)) W) => h.i.belowF (B := w.heap.size) (fun _ h => h) (Ext.trans _ _ _ hE0 hE)
  have hcell := fun W (hE : Ext (w.alloc (.cells (itC x Al cl Ai ci) 33)) W) (k : Nat) => cell_at ((hE.block _ (Array.getElem?_eq_some_iff.1 hp0).1).trans hp0) k
  have hfin := fun W (hE : Ext (w.alloc (.cells (itC x Al cl Ai ci) 33)) W) (va vb : Value) (l : List UInt8) (b : Bool) (hl : l = tellM x) (hb : b = toldB x) (ha : Rd W w.heap.size va l) (hb2 : Rd W w.heap.size vb l) => show ToldIt w x (.returned (.tuple #[va, vb, .bool b])) W from by
    subst hl
    subst hb
    exact ⟨va, vb, rfl, ha, hb2, Ext.trans _ _ _ hE0 hE⟩
  have Hw0 := Lib.hid (fun W (hE : Ext (w.alloc (.cells (itC x Al cl Ai ci) 33)) W) => Uint_calls x.u hok.u W)
  have Hr0 := Lib.hid (fun W (hE : Ext (w.alloc (.cells (itC x Al cl Ai ci) 33)) W) => RUint_calls x.u hok.u W)
  have Hw1 := Lib.hid (fun W (hE : Ext (w.alloc (.cells (itC x Al cl Ai ci) 33)) W) => Int_calls x.n hok.n W)
  have Hr1 := Lib.hid (fun W (hE : Ext (w.alloc (.cells (itC x Al cl Ai ci) 33)) W) => RInt_calls x.n hok.n W)
  have Hw2 := Lib.hid (fun W (hE : Ext (w.alloc (.cells (itC x Al cl Ai ci) 33)) W) => Text_calls x.s hs' W)
  have Hr2 := Lib.hid (fun W (hE : Ext (w.alloc (.cells (itC x Al cl Ai ci) 33)) W) => RText_calls x.s hs' W)
  have Hw3 := Lib.hid (fun W (hE : Ext (w.alloc (.cells (itC x Al cl Ai ci) 33)) W) => Flag_calls x.on W)
  have Hr3 := Lib.hid (fun W (hE : Ext (w.alloc (.cells (itC x Al cl Ai ci) 33)) W) => RFlag_calls x.on W)
  have Hw4 := Lib.hid (fun W (hE : Ext (w.alloc (.cells (itC x Al cl Ai ci) 33)) W) => Texts_calls Al cl x.l _ W hl63 htl (fun k hk => Nat.lt_of_lt_of_le hk (Nat.le_trans hsz hE.size)) (hrl W hE))
  have Hr4 := Lib.hid (fun W (hE : Ext (w.alloc (.cells (itC x Al cl Ai ci) 33)) W) => RTexts_calls Al cl x.l _ W hl63 htl (fun k hk => Nat.lt_of_lt_of_le hk (Nat.le_trans hsz hE.size)) (hrl W hE))
  have Hw5 := Lib.hid (fun W (hE : Ext (w.alloc (.cells (itC x Al cl Ai ci) 33)) W) => Ints_calls Ai ci x.i _ W hi63 hti (fun k hk => Nat.lt_of_lt_of_le hk (Nat.le_trans hsz hE.size)) (hri W hE))
  have Hr5 := Lib.hid (fun W (hE : Ext (w.alloc (.cells (itC x Al cl Ai ci) 33)) W) => RInts_calls Ai ci x.i _ W hi63 hti (fun k hk => Nat.lt_of_lt_of_le hk (Nat.le_trans hsz hE.size)) (hri W hE))
  have Hcell := Lib.hid hcell
  have Hfin := Lib.hid hfin
  have hk0 := (hcell _ (Ext.refl _) 0).trans (show (itC x Al cl Ai ci)[0]? = some (.int .i64 x.kind) from rfl)
  clear hcell hfin hrl hri htl hti hl63 hi63 hs' hp0
  have Hsz := Lib.hid hsz
  clear hsz hE0
  obtain ⟨tl, htl⟩ : ∃ l, l = tellM x := ⟨_, rfl⟩
  obtain ⟨tb, htb⟩ : ∃ b, b = toldB x := ⟨_, rfl⟩
  have Htl := Lib.hid htl
  have Htb := Lib.hid htb
  clear htl htb
  unfold itC at *
  go_enter Try.func12, Try.ntmps12
  by_cases h0 : x.kind = 0
  · have hb0 : (x.kind == 0) = true := by rw [beq_iff_eq]; exact h0
    have Hl := Lib.hid (show encN x.u = tellM x from by unfold tellM; rw [if_pos h0])
    have Hb := Lib.hid (show true = toldB x from by unfold toldB; rw [h0]; rfl)
    have Hh := Lib.hid h0
    clear h0
    go_wp2_with fail
    refine wp_region_steps [.eq (.pointer (some ⟨w.heap.size, 1, none⟩)), .eq (.int .u64 x.u), .own w.heap.size (encN x.u), .eq (.pointer (some ⟨w.heap.size, 1, none⟩)), .eq (.int .u64 x.u), .own w.heap.size (encN x.u), .own w.heap.size (encN x.u), .own w.heap.size (encN x.u), .eq (.bool true)] (by kernel_rfl) (by kernel_rfl) (all_dst (by kernel_rfl)) ?_ ?_
    · refine ⟨?_, ?_, ?_, ?_, ?_, ?_, ?_, ?_, ?_, trivial⟩
      · intro S W K hE hf hd hK
        have f1 : S.tmps.getD 1 undef = .pointer (some ⟨w.heap.size, 0, none⟩) := hf 1 (by kernel_rfl)
        refine want_free rfl ?_
        rw [Array.getD_eq_getD_getElem?] at f1
        go_simp
        exact hK _ _ (Ext.refl _) (fun _ => rfl)
      · intro S W K hE hf hd hK
        have d9 : S.tmps.getD 9 undef = (.pointer (some ⟨w.heap.size, 1, none⟩)) := hd 0 _ rfl (by kernel_rfl)
        refine want_free rfl ?_
        rw [Array.getD_eq_getD_getElem?] at d9
        have hc1 := (Hcell.out W hE 1).trans rfl
        go_simp
        exact hK _ _ (Ext.refl _) (fun _ => rfl)
      · intro S W K hE hf hd hK
        have d10 : S.tmps.getD 10 undef = (.int .u64 x.u) := hd 1 _ rfl (by kernel_rfl)
        refine want_free rfl ?_
        rw [Array.getD_eq_getD_getElem?] at d10
        go_simp
        refine (Hw0.out W hE).mono ?_
        rintro e W' ⟨v, rfl, hv, hb⟩
        exact hK _ _ hb (fun _ => (Rd.of (F := fun _ => False) hv).lower (Nat.le_trans Hsz.out hE.size))
      · intro S W K hE hf hd hK
        have f1 : S.tmps.getD 1 undef = .pointer (some ⟨w.heap.size, 0, none⟩) := hf 1 (by kernel_rfl)
        refine want_free rfl ?_
        rw [Array.getD_eq_getD_getElem?] at f1
        go_simp
        exact hK _ _ (Ext.refl _) (fun _ => rfl)
      · intro S W K hE hf hd hK
        have d12 : S.tmps.getD 12 undef = (.pointer (some ⟨w.heap.size, 1, none⟩)) := hd 3 _ rfl (by kernel_rfl)
        refine want_free rfl ?_
        rw [Array.getD_eq_getD_getElem?] at d12
        have hc1 := (Hcell.out W hE 1).trans rfl
        go_simp
        exact hK _ _ (Ext.refl _) (fun _ => rfl)
      · intro S W K hE hf hd hK
        have d13 : S.tmps.getD 13 undef = (.int .u64 x.u) := hd 4 _ rfl (by kernel_rfl)
        refine want_free rfl ?_
        rw [Array.getD_eq_getD_getElem?] at d13
        go_simp
        refine (Hr0.out W hE).mono ?_
        rintro e W' ⟨v, rfl, hv, hb⟩
        exact hK _ _ hb (fun _ => (Rd.of (F := fun _ => False) hv).lower (Nat.le_trans Hsz.out hE.size))
      · intro S W K hE hf hd hK
        have d11 := hd 2 _ rfl (by kernel_rfl)
        refine want_free rfl ?_
        go_simp
        have q := (show Rd W w.heap.size (S.tmps.getD 11 undef) (encN x.u) from d11)
        rw [Array.getD_eq_getD_getElem?] at q
        exact hK _ _ (Ext.refl _) (fun _ => q)
      · intro S W K hE hf hd hK
        have d14 := hd 5 _ rfl (by kernel_rfl)
        refine want_free rfl ?_
        go_simp
        have q := (show Rd W w.heap.size (S.tmps.getD 14 undef) (encN x.u) from d14)
        rw [Array.getD_eq_getD_getElem?] at q
        exact hK _ _ (Ext.refl _) (fun _ => q)
      · intro S W K hE hf hd hK
        refine want_free rfl ?_
        go_simp
        exact hK _ _ (Ext.refl _) (fun _ => rfl)
    · intro vs W hE hV
      have v0 : vs 0 = (.pointer (some ⟨w.heap.size, 1, none⟩)) := hV 0 _ rfl (fun h => by cases h)
      have v1 : vs 1 = (.int .u64 x.u) := hV 1 _ rfl (fun h => by cases h)
      have v2 := hV 2 _ rfl (fun h => by cases h)
      have v3 : vs 3 = (.pointer (some ⟨w.heap.size, 1, none⟩)) := hV 3 _ rfl (fun h => by cases h)
      have v4 : vs 4 = (.int .u64 x.u) := hV 4 _ rfl (fun h => by cases h)
      have v5 := hV 5 _ rfl (fun h => by cases h)
      have v6 := hV 6 _ rfl (fun h => by cases h)
      have v7 := hV 7 _ rfl (fun h => by cases h)
      have v8 : vs 8 = (.bool true) := hV 8 _ rfl (fun h => by cases h)
      clear hV
      set_option maxRecDepth 100000 in simp only [putAll, List.map_cons, List.map_nil, List.length_cons, List.length_nil, Nat.reduceAdd, List.range_succ, List.range_zero, List.nil_append, List.cons_append]
      set_option maxRecDepth 100000 in go_simp
      have q1 := (show Rd W w.heap.size (vs 6) (encN x.u) from v6)
      have q2 := (show Rd W w.heap.size (vs 7) (encN x.u) from v7)
      clear v0 v1 v2 v3 v4 v5 v6 v7 v8
      go_wp2
      go_ret3
      exact Hfin.out W hE _ _ _ _ Hl.out Hb.out q1 q2
  · have hb0 : (x.kind == 0) = false := by rw [beq_eq_false_iff_ne]; exact h0
    by_cases h1 : x.kind = 1
    · have hb1 : (x.kind == 1) = true := by rw [beq_iff_eq]; exact h1
      have Hl := Lib.hid (show encN (zig x.n) = tellM x from by unfold tellM; rw [if_neg h0, if_pos h1])
      have Hb := Lib.hid (show true = toldB x from by unfold toldB; rw [h1]; rfl)
      have Hh := Lib.hid h1
      clear h1
      go_wp2_with fail
      refine wp_region_steps [.eq (.pointer (some ⟨w.heap.size, 2, none⟩)), .eq (.int .i64 x.n), .own w.heap.size (encN (zig x.n)), .eq (.pointer (some ⟨w.heap.size, 2, none⟩)), .eq (.int .i64 x.n), .own w.heap.size (encN (zig x.n)), .own w.heap.size (encN (zig x.n)), .own w.heap.size (encN (zig x.n)), .eq (.bool true)] (by kernel_rfl) (by kernel_rfl) (all_dst (by kernel_rfl)) ?_ ?_
      · refine ⟨?_, ?_, ?_, ?_, ?_, ?_, ?_, ?_, ?_, trivial⟩
        · intro S W K hE hf hd hK
          have f1 : S.tmps.getD 1 undef = .pointer (some ⟨w.heap.size, 0, none⟩) := hf 1 (by kernel_rfl)
          refine want_free rfl ?_
          rw [Array.getD_eq_getD_getElem?] at f1
          go_simp
          exact hK _ _ (Ext.refl _) (fun _ => rfl)
        · intro S W K hE hf hd hK
          have d17 : S.tmps.getD 17 undef = (.pointer (some ⟨w.heap.size, 2, none⟩)) := hd 0 _ rfl (by kernel_rfl)
          refine want_free rfl ?_
          rw [Array.getD_eq_getD_getElem?] at d17
          have hc1 := (Hcell.out W hE 2).trans rfl
          go_simp
          exact hK _ _ (Ext.refl _) (fun _ => rfl)
        · intro S W K hE hf hd hK
          have d18 : S.tmps.getD 18 undef = (.int .i64 x.n) := hd 1 _ rfl (by kernel_rfl)
          refine want_free rfl ?_
          rw [Array.getD_eq_getD_getElem?] at d18
          go_simp
          refine (Hw1.out W hE).mono ?_
          rintro e W' ⟨v, rfl, hv, hb⟩
          exact hK _ _ hb (fun _ => (Rd.of (F := fun _ => False) hv).lower (Nat.le_trans Hsz.out hE.size))
        · intro S W K hE hf hd hK
          have f1 : S.tmps.getD 1 undef = .pointer (some ⟨w.heap.size, 0, none⟩) := hf 1 (by kernel_rfl)
          refine want_free rfl ?_
          rw [Array.getD_eq_getD_getElem?] at f1
          go_simp
          exact hK _ _ (Ext.refl _) (fun _ => rfl)
        · intro S W K hE hf hd hK
          have d20 : S.tmps.getD 20 undef = (.pointer (some ⟨w.heap.size, 2, none⟩)) := hd 3 _ rfl (by kernel_rfl)
          refine want_free rfl ?_
          rw [Array.getD_eq_getD_getElem?] at d20
          have hc1 := (Hcell.out W hE 2).trans rfl
          go_simp
          exact hK _ _ (Ext.refl _) (fun _ => rfl)
        · intro S W K hE hf hd hK
          have d21 : S.tmps.getD 21 undef = (.int .i64 x.n) := hd 4 _ rfl (by kernel_rfl)
          refine want_free rfl ?_
          rw [Array.getD_eq_getD_getElem?] at d21
          go_simp
          refine (Hr1.out W hE).mono ?_
          rintro e W' ⟨v, rfl, hv, hb⟩
          exact hK _ _ hb (fun _ => (Rd.of (F := fun _ => False) hv).lower (Nat.le_trans Hsz.out hE.size))
        · intro S W K hE hf hd hK
          have d19 := hd 2 _ rfl (by kernel_rfl)
          refine want_free rfl ?_
          go_simp
          have q := (show Rd W w.heap.size (S.tmps.getD 19 undef) (encN (zig x.n)) from d19)
          rw [Array.getD_eq_getD_getElem?] at q
          exact hK _ _ (Ext.refl _) (fun _ => q)
        · intro S W K hE hf hd hK
          have d22 := hd 5 _ rfl (by kernel_rfl)
          refine want_free rfl ?_
          go_simp
          have q := (show Rd W w.heap.size (S.tmps.getD 22 undef) (encN (zig x.n)) from d22)
          rw [Array.getD_eq_getD_getElem?] at q
          exact hK _ _ (Ext.refl _) (fun _ => q)
        · intro S W K hE hf hd hK
          refine want_free rfl ?_
          go_simp
          exact hK _ _ (Ext.refl _) (fun _ => rfl)
      · intro vs W hE hV
        have v0 : vs 0 = (.pointer (some ⟨w.heap.size, 2, none⟩)) := hV 0 _ rfl (fun h => by cases h)
        have v1 : vs 1 = (.int .i64 x.n) := hV 1 _ rfl (fun h => by cases h)
        have v2 := hV 2 _ rfl (fun h => by cases h)
        have v3 : vs 3 = (.pointer (some ⟨w.heap.size, 2, none⟩)) := hV 3 _ rfl (fun h => by cases h)
        have v4 : vs 4 = (.int .i64 x.n) := hV 4 _ rfl (fun h => by cases h)
        have v5 := hV 5 _ rfl (fun h => by cases h)
        have v6 := hV 6 _ rfl (fun h => by cases h)
        have v7 := hV 7 _ rfl (fun h => by cases h)
        have v8 : vs 8 = (.bool true) := hV 8 _ rfl (fun h => by cases h)
        clear hV
        set_option maxRecDepth 100000 in simp only [putAll, List.map_cons, List.map_nil, List.length_cons, List.length_nil, Nat.reduceAdd, List.range_succ, List.range_zero, List.nil_append, List.cons_append]
        set_option maxRecDepth 100000 in go_simp
        have q1 := (show Rd W w.heap.size (vs 6) (encN (zig x.n)) from v6)
        have q2 := (show Rd W w.heap.size (vs 7) (encN (zig x.n)) from v7)
        clear v0 v1 v2 v3 v4 v5 v6 v7 v8
        go_wp2
        go_ret3
        exact Hfin.out W hE _ _ _ _ Hl.out Hb.out q1 q2
    · have hb1 : (x.kind == 1) = false := by rw [beq_eq_false_iff_ne]; exact h1
      by_cases h2 : x.kind = 2
      · have hb2 : (x.kind == 2) = true := by rw [beq_iff_eq]; exact h2
        have Hl := Lib.hid (show encT x.s = tellM x from by unfold tellM; rw [if_neg h0, if_neg h1, if_pos h2])
        have Hb := Lib.hid (show true = toldB x from by unfold toldB; rw [h2]; rfl)
        have Hh := Lib.hid h2
        clear h2
        go_wp2_with fail
        refine wp_region_steps [.eq (.pointer (some ⟨w.heap.size, 4, none⟩)), .eq (.string x.s), .own w.heap.size (encT x.s), .eq (.pointer (some ⟨w.heap.size, 4, none⟩)), .eq (.string x.s), .own w.heap.size (encT x.s), .own w.heap.size (encT x.s), .own w.heap.size (encT x.s), .eq (.bool true)] (by kernel_rfl) (by kernel_rfl) (all_dst (by kernel_rfl)) ?_ ?_
        · refine ⟨?_, ?_, ?_, ?_, ?_, ?_, ?_, ?_, ?_, trivial⟩
          · intro S W K hE hf hd hK
            have f1 : S.tmps.getD 1 undef = .pointer (some ⟨w.heap.size, 0, none⟩) := hf 1 (by kernel_rfl)
            refine want_free rfl ?_
            rw [Array.getD_eq_getD_getElem?] at f1
            go_simp
            exact hK _ _ (Ext.refl _) (fun _ => rfl)
          · intro S W K hE hf hd hK
            have d25 : S.tmps.getD 25 undef = (.pointer (some ⟨w.heap.size, 4, none⟩)) := hd 0 _ rfl (by kernel_rfl)
            refine want_free rfl ?_
            rw [Array.getD_eq_getD_getElem?] at d25
            have hc1 := (Hcell.out W hE 4).trans rfl
            go_simp
            exact hK _ _ (Ext.refl _) (fun _ => rfl)
          · intro S W K hE hf hd hK
            have d26 : S.tmps.getD 26 undef = (.string x.s) := hd 1 _ rfl (by kernel_rfl)
            refine want_free rfl ?_
            rw [Array.getD_eq_getD_getElem?] at d26
            go_simp
            refine (Hw2.out W hE).mono ?_
            rintro e W' ⟨v, rfl, hv, hb⟩
            exact hK _ _ hb (fun _ => (Rd.of (F := fun _ => False) hv).lower (Nat.le_trans Hsz.out hE.size))
          · intro S W K hE hf hd hK
            have f1 : S.tmps.getD 1 undef = .pointer (some ⟨w.heap.size, 0, none⟩) := hf 1 (by kernel_rfl)
            refine want_free rfl ?_
            rw [Array.getD_eq_getD_getElem?] at f1
            go_simp
            exact hK _ _ (Ext.refl _) (fun _ => rfl)
          · intro S W K hE hf hd hK
            have d28 : S.tmps.getD 28 undef = (.pointer (some ⟨w.heap.size, 4, none⟩)) := hd 3 _ rfl (by kernel_rfl)
            refine want_free rfl ?_
            rw [Array.getD_eq_getD_getElem?] at d28
            have hc1 := (Hcell.out W hE 4).trans rfl
            go_simp
            exact hK _ _ (Ext.refl _) (fun _ => rfl)
          · intro S W K hE hf hd hK
            have d29 : S.tmps.getD 29 undef = (.string x.s) := hd 4 _ rfl (by kernel_rfl)
            refine want_free rfl ?_
            rw [Array.getD_eq_getD_getElem?] at d29
            go_simp
            refine (Hr2.out W hE).mono ?_
            rintro e W' ⟨v, rfl, hv, hb⟩
            exact hK _ _ hb (fun _ => (Rd.of (F := fun _ => False) hv).lower (Nat.le_trans Hsz.out hE.size))
          · intro S W K hE hf hd hK
            have d27 := hd 2 _ rfl (by kernel_rfl)
            refine want_free rfl ?_
            go_simp
            have q := (show Rd W w.heap.size (S.tmps.getD 27 undef) (encT x.s) from d27)
            rw [Array.getD_eq_getD_getElem?] at q
            exact hK _ _ (Ext.refl _) (fun _ => q)
          · intro S W K hE hf hd hK
            have d30 := hd 5 _ rfl (by kernel_rfl)
            refine want_free rfl ?_
            go_simp
            have q := (show Rd W w.heap.size (S.tmps.getD 30 undef) (encT x.s) from d30)
            rw [Array.getD_eq_getD_getElem?] at q
            exact hK _ _ (Ext.refl _) (fun _ => q)
          · intro S W K hE hf hd hK
            refine want_free rfl ?_
            go_simp
            exact hK _ _ (Ext.refl _) (fun _ => rfl)
        · intro vs W hE hV
          have v0 : vs 0 = (.pointer (some ⟨w.heap.size, 4, none⟩)) := hV 0 _ rfl (fun h => by cases h)
          have v1 : vs 1 = (.string x.s) := hV 1 _ rfl (fun h => by cases h)
          have v2 := hV 2 _ rfl (fun h => by cases h)
          have v3 : vs 3 = (.pointer (some ⟨w.heap.size, 4, none⟩)) := hV 3 _ rfl (fun h => by cases h)
          have v4 : vs 4 = (.string x.s) := hV 4 _ rfl (fun h => by cases h)
          have v5 := hV 5 _ rfl (fun h => by cases h)
          have v6 := hV 6 _ rfl (fun h => by cases h)
          have v7 := hV 7 _ rfl (fun h => by cases h)
          have v8 : vs 8 = (.bool true) := hV 8 _ rfl (fun h => by cases h)
          clear hV
          set_option maxRecDepth 100000 in simp only [putAll, List.map_cons, List.map_nil, List.length_cons, List.length_nil, Nat.reduceAdd, List.range_succ, List.range_zero, List.nil_append, List.cons_append]
          set_option maxRecDepth 100000 in go_simp
          have q1 := (show Rd W w.heap.size (vs 6) (encT x.s) from v6)
          have q2 := (show Rd W w.heap.size (vs 7) (encT x.s) from v7)
          clear v0 v1 v2 v3 v4 v5 v6 v7 v8
          go_wp2
          go_ret3
          exact Hfin.out W hE _ _ _ _ Hl.out Hb.out q1 q2
      · have hb2 : (x.kind == 2) = false := by rw [beq_eq_false_iff_ne]; exact h2
        by_cases h3 : x.kind = 3
        · have hb3 : (x.kind == 3) = true := by rw [beq_iff_eq]; exact h3
          have Hl := Lib.hid (show [if x.on then 1 else 0] = tellM x from by unfold tellM; rw [if_neg h0, if_neg h1, if_neg h2, if_pos h3])
          have Hb := Lib.hid (show true = toldB x from by unfold toldB; rw [h3]; rfl)
          have Hh := Lib.hid h3
          clear h3
          go_wp2_with fail
          refine wp_region_steps [.eq (.pointer (some ⟨w.heap.size, 5, none⟩)), .eq (.bool x.on), .own w.heap.size ([if x.on then 1 else 0]), .eq (.pointer (some ⟨w.heap.size, 5, none⟩)), .eq (.bool x.on), .own w.heap.size ([if x.on then 1 else 0]), .own w.heap.size ([if x.on then 1 else 0]), .own w.heap.size ([if x.on then 1 else 0]), .eq (.bool true)] (by kernel_rfl) (by kernel_rfl) (all_dst (by kernel_rfl)) ?_ ?_
          · refine ⟨?_, ?_, ?_, ?_, ?_, ?_, ?_, ?_, ?_, trivial⟩
            · intro S W K hE hf hd hK
              have f1 : S.tmps.getD 1 undef = .pointer (some ⟨w.heap.size, 0, none⟩) := hf 1 (by kernel_rfl)
              refine want_free rfl ?_
              rw [Array.getD_eq_getD_getElem?] at f1
              go_simp
              exact hK _ _ (Ext.refl _) (fun _ => rfl)
            · intro S W K hE hf hd hK
              have d33 : S.tmps.getD 33 undef = (.pointer (some ⟨w.heap.size, 5, none⟩)) := hd 0 _ rfl (by kernel_rfl)
              refine want_free rfl ?_
              rw [Array.getD_eq_getD_getElem?] at d33
              have hc1 := (Hcell.out W hE 5).trans rfl
              go_simp
              exact hK _ _ (Ext.refl _) (fun _ => rfl)
            · intro S W K hE hf hd hK
              have d34 : S.tmps.getD 34 undef = (.bool x.on) := hd 1 _ rfl (by kernel_rfl)
              refine want_free rfl ?_
              rw [Array.getD_eq_getD_getElem?] at d34
              go_simp
              refine (Hw3.out W hE).mono ?_
              rintro e W' ⟨v, rfl, hv, hb⟩
              exact hK _ _ hb (fun _ => (Rd.of (F := fun _ => False) hv).lower (Nat.le_trans Hsz.out hE.size))
            · intro S W K hE hf hd hK
              have f1 : S.tmps.getD 1 undef = .pointer (some ⟨w.heap.size, 0, none⟩) := hf 1 (by kernel_rfl)
              refine want_free rfl ?_
              rw [Array.getD_eq_getD_getElem?] at f1
              go_simp
              exact hK _ _ (Ext.refl _) (fun _ => rfl)
            · intro S W K hE hf hd hK
              have d36 : S.tmps.getD 36 undef = (.pointer (some ⟨w.heap.size, 5, none⟩)) := hd 3 _ rfl (by kernel_rfl)
              refine want_free rfl ?_
              rw [Array.getD_eq_getD_getElem?] at d36
              have hc1 := (Hcell.out W hE 5).trans rfl
              go_simp
              exact hK _ _ (Ext.refl _) (fun _ => rfl)
            · intro S W K hE hf hd hK
              have d37 : S.tmps.getD 37 undef = (.bool x.on) := hd 4 _ rfl (by kernel_rfl)
              refine want_free rfl ?_
              rw [Array.getD_eq_getD_getElem?] at d37
              go_simp
              refine (Hr3.out W hE).mono ?_
              rintro e W' ⟨v, rfl, hv, hb⟩
              exact hK _ _ hb (fun _ => (Rd.of (F := fun _ => False) hv).lower (Nat.le_trans Hsz.out hE.size))
            · intro S W K hE hf hd hK
              have d35 := hd 2 _ rfl (by kernel_rfl)
              refine want_free rfl ?_
              go_simp
              have q := (show Rd W w.heap.size (S.tmps.getD 35 undef) ([if x.on then 1 else 0]) from d35)
              rw [Array.getD_eq_getD_getElem?] at q
              exact hK _ _ (Ext.refl _) (fun _ => q)
            · intro S W K hE hf hd hK
              have d38 := hd 5 _ rfl (by kernel_rfl)
              refine want_free rfl ?_
              go_simp
              have q := (show Rd W w.heap.size (S.tmps.getD 38 undef) ([if x.on then 1 else 0]) from d38)
              rw [Array.getD_eq_getD_getElem?] at q
              exact hK _ _ (Ext.refl _) (fun _ => q)
            · intro S W K hE hf hd hK
              refine want_free rfl ?_
              go_simp
              exact hK _ _ (Ext.refl _) (fun _ => rfl)
          · intro vs W hE hV
            have v0 : vs 0 = (.pointer (some ⟨w.heap.size, 5, none⟩)) := hV 0 _ rfl (fun h => by cases h)
            have v1 : vs 1 = (.bool x.on) := hV 1 _ rfl (fun h => by cases h)
            have v2 := hV 2 _ rfl (fun h => by cases h)
            have v3 : vs 3 = (.pointer (some ⟨w.heap.size, 5, none⟩)) := hV 3 _ rfl (fun h => by cases h)
            have v4 : vs 4 = (.bool x.on) := hV 4 _ rfl (fun h => by cases h)
            have v5 := hV 5 _ rfl (fun h => by cases h)
            have v6 := hV 6 _ rfl (fun h => by cases h)
            have v7 := hV 7 _ rfl (fun h => by cases h)
            have v8 : vs 8 = (.bool true) := hV 8 _ rfl (fun h => by cases h)
            clear hV
            set_option maxRecDepth 100000 in simp only [putAll, List.map_cons, List.map_nil, List.length_cons, List.length_nil, Nat.reduceAdd, List.range_succ, List.range_zero, List.nil_append, List.cons_append]
            set_option maxRecDepth 100000 in go_simp
            have q1 := (show Rd W w.heap.size (vs 6) ([if x.on then 1 else 0]) from v6)
            have q2 := (show Rd W w.heap.size (vs 7) ([if x.on then 1 else 0]) from v7)
            clear v0 v1 v2 v3 v4 v5 v6 v7 v8
            go_wp2
            go_ret3
            exact Hfin.out W hE _ _ _ _ Hl.out Hb.out q1 q2
        · have hb3 : (x.kind == 3) = false := by rw [beq_eq_false_iff_ne]; exact h3
          by_cases h4 : x.kind = 4
          · have hb4 : (x.kind == 4) = true := by rw [beq_iff_eq]; exact h4
            have Hl := Lib.hid (show encTs x.l = tellM x from by unfold tellM; rw [if_neg h0, if_neg h1, if_neg h2, if_neg h3, if_pos h4])
            have Hb := Lib.hid (show true = toldB x from by unfold toldB; rw [h4]; rfl)
            have Hh := Lib.hid h4
            clear h4
            go_wp2_with fail
            refine wp_region_steps [.eq (.pointer (some ⟨w.heap.size, 6, none⟩)), .eq (.slice Al x.l.length cl), .own w.heap.size (encTs x.l), .eq (.pointer (some ⟨w.heap.size, 6, none⟩)), .eq (.slice Al x.l.length cl), .own w.heap.size (encTs x.l), .own w.heap.size (encTs x.l), .own w.heap.size (encTs x.l), .eq (.bool true)] (by kernel_rfl) (by kernel_rfl) (all_dst (by kernel_rfl)) ?_ ?_
            · refine ⟨?_, ?_, ?_, ?_, ?_, ?_, ?_, ?_, ?_, trivial⟩
              · intro S W K hE hf hd hK
                have f1 : S.tmps.getD 1 undef = .pointer (some ⟨w.heap.size, 0, none⟩) := hf 1 (by kernel_rfl)
                refine want_free rfl ?_
                rw [Array.getD_eq_getD_getElem?] at f1
                go_simp
                exact hK _ _ (Ext.refl _) (fun _ => rfl)
              · intro S W K hE hf hd hK
                have d41 : S.tmps.getD 41 undef = (.pointer (some ⟨w.heap.size, 6, none⟩)) := hd 0 _ rfl (by kernel_rfl)
                refine want_free rfl ?_
                rw [Array.getD_eq_getD_getElem?] at d41
                have hc1 := (Hcell.out W hE 6).trans rfl
                go_simp
                exact hK _ _ (Ext.refl _) (fun _ => rfl)
              · intro S W K hE hf hd hK
                have d42 : S.tmps.getD 42 undef = (.slice Al x.l.length cl) := hd 1 _ rfl (by kernel_rfl)
                refine want_free rfl ?_
                rw [Array.getD_eq_getD_getElem?] at d42
                go_simp
                refine (Hw4.out W hE).mono ?_
                rintro e W' ⟨v, rfl, hv, hb⟩
                exact hK _ _ hb (fun _ => (Rd.of (F := fun _ => False) hv).lower (Nat.le_trans Hsz.out hE.size))
              · intro S W K hE hf hd hK
                have f1 : S.tmps.getD 1 undef = .pointer (some ⟨w.heap.size, 0, none⟩) := hf 1 (by kernel_rfl)
                refine want_free rfl ?_
                rw [Array.getD_eq_getD_getElem?] at f1
                go_simp
                exact hK _ _ (Ext.refl _) (fun _ => rfl)
              · intro S W K hE hf hd hK
                have d44 : S.tmps.getD 44 undef = (.pointer (some ⟨w.heap.size, 6, none⟩)) := hd 3 _ rfl (by kernel_rfl)
                refine want_free rfl ?_
                rw [Array.getD_eq_getD_getElem?] at d44
                have hc1 := (Hcell.out W hE 6).trans rfl
                go_simp
                exact hK _ _ (Ext.refl _) (fun _ => rfl)
              · intro S W K hE hf hd hK
                have d45 : S.tmps.getD 45 undef = (.slice Al x.l.length cl) := hd 4 _ rfl (by kernel_rfl)
                refine want_free rfl ?_
                rw [Array.getD_eq_getD_getElem?] at d45
                go_simp
                refine (Hr4.out W hE).mono ?_
                rintro e W' ⟨v, rfl, hv, hb⟩
                exact hK _ _ hb (fun _ => (Rd.of (F := fun _ => False) hv).lower (Nat.le_trans Hsz.out hE.size))
              · intro S W K hE hf hd hK
                have d43 := hd 2 _ rfl (by kernel_rfl)
                refine want_free rfl ?_
                go_simp
                have q := (show Rd W w.heap.size (S.tmps.getD 43 undef) (encTs x.l) from d43)
                rw [Array.getD_eq_getD_getElem?] at q
                exact hK _ _ (Ext.refl _) (fun _ => q)
              · intro S W K hE hf hd hK
                have d46 := hd 5 _ rfl (by kernel_rfl)
                refine want_free rfl ?_
                go_simp
                have q := (show Rd W w.heap.size (S.tmps.getD 46 undef) (encTs x.l) from d46)
                rw [Array.getD_eq_getD_getElem?] at q
                exact hK _ _ (Ext.refl _) (fun _ => q)
              · intro S W K hE hf hd hK
                refine want_free rfl ?_
                go_simp
                exact hK _ _ (Ext.refl _) (fun _ => rfl)
            · intro vs W hE hV
              have v0 : vs 0 = (.pointer (some ⟨w.heap.size, 6, none⟩)) := hV 0 _ rfl (fun h => by cases h)
              have v1 : vs 1 = (.slice Al x.l.length cl) := hV 1 _ rfl (fun h => by cases h)
              have v2 := hV 2 _ rfl (fun h => by cases h)
              have v3 : vs 3 = (.pointer (some ⟨w.heap.size, 6, none⟩)) := hV 3 _ rfl (fun h => by cases h)
              have v4 : vs 4 = (.slice Al x.l.length cl) := hV 4 _ rfl (fun h => by cases h)
              have v5 := hV 5 _ rfl (fun h => by cases h)
              have v6 := hV 6 _ rfl (fun h => by cases h)
              have v7 := hV 7 _ rfl (fun h => by cases h)
              have v8 : vs 8 = (.bool true) := hV 8 _ rfl (fun h => by cases h)
              clear hV
              set_option maxRecDepth 100000 in simp only [putAll, List.map_cons, List.map_nil, List.length_cons, List.length_nil, Nat.reduceAdd, List.range_succ, List.range_zero, List.nil_append, List.cons_append]
              set_option maxRecDepth 100000 in go_simp
              have q1 := (show Rd W w.heap.size (vs 6) (encTs x.l) from v6)
              have q2 := (show Rd W w.heap.size (vs 7) (encTs x.l) from v7)
              clear v0 v1 v2 v3 v4 v5 v6 v7 v8
              go_wp2
              go_ret3
              exact Hfin.out W hE _ _ _ _ Hl.out Hb.out q1 q2
          · have hb4 : (x.kind == 4) = false := by rw [beq_eq_false_iff_ne]; exact h4
            by_cases h5 : x.kind = 5
            · have hb5 : (x.kind == 5) = true := by rw [beq_iff_eq]; exact h5
              have Hl := Lib.hid (show encIs x.i = tellM x from by unfold tellM; rw [if_neg h0, if_neg h1, if_neg h2, if_neg h3, if_neg h4, if_pos h5])
              have Hb := Lib.hid (show true = toldB x from by unfold toldB; rw [h5]; rfl)
              have Hh := Lib.hid h5
              clear h5
              go_wp2_with fail
              refine wp_region_steps [.eq (.pointer (some ⟨w.heap.size, 7, none⟩)), .eq (.slice Ai x.i.length ci), .own w.heap.size (encIs x.i), .eq (.pointer (some ⟨w.heap.size, 7, none⟩)), .eq (.slice Ai x.i.length ci), .own w.heap.size (encIs x.i), .own w.heap.size (encIs x.i), .own w.heap.size (encIs x.i), .eq (.bool true)] (by kernel_rfl) (by kernel_rfl) (all_dst (by kernel_rfl)) ?_ ?_
              · refine ⟨?_, ?_, ?_, ?_, ?_, ?_, ?_, ?_, ?_, trivial⟩
                · intro S W K hE hf hd hK
                  have f1 : S.tmps.getD 1 undef = .pointer (some ⟨w.heap.size, 0, none⟩) := hf 1 (by kernel_rfl)
                  refine want_free rfl ?_
                  rw [Array.getD_eq_getD_getElem?] at f1
                  go_simp
                  exact hK _ _ (Ext.refl _) (fun _ => rfl)
                · intro S W K hE hf hd hK
                  have d49 : S.tmps.getD 49 undef = (.pointer (some ⟨w.heap.size, 7, none⟩)) := hd 0 _ rfl (by kernel_rfl)
                  refine want_free rfl ?_
                  rw [Array.getD_eq_getD_getElem?] at d49
                  have hc1 := (Hcell.out W hE 7).trans rfl
                  go_simp
                  exact hK _ _ (Ext.refl _) (fun _ => rfl)
                · intro S W K hE hf hd hK
                  have d50 : S.tmps.getD 50 undef = (.slice Ai x.i.length ci) := hd 1 _ rfl (by kernel_rfl)
                  refine want_free rfl ?_
                  rw [Array.getD_eq_getD_getElem?] at d50
                  go_simp
                  refine (Hw5.out W hE).mono ?_
                  rintro e W' ⟨v, rfl, hv, hb⟩
                  exact hK _ _ hb (fun _ => (Rd.of (F := fun _ => False) hv).lower (Nat.le_trans Hsz.out hE.size))
                · intro S W K hE hf hd hK
                  have f1 : S.tmps.getD 1 undef = .pointer (some ⟨w.heap.size, 0, none⟩) := hf 1 (by kernel_rfl)
                  refine want_free rfl ?_
                  rw [Array.getD_eq_getD_getElem?] at f1
                  go_simp
                  exact hK _ _ (Ext.refl _) (fun _ => rfl)
                · intro S W K hE hf hd hK
                  have d52 : S.tmps.getD 52 undef = (.pointer (some ⟨w.heap.size, 7, none⟩)) := hd 3 _ rfl (by kernel_rfl)
                  refine want_free rfl ?_
                  rw [Array.getD_eq_getD_getElem?] at d52
                  have hc1 := (Hcell.out W hE 7).trans rfl
                  go_simp
                  exact hK _ _ (Ext.refl _) (fun _ => rfl)
                · intro S W K hE hf hd hK
                  have d53 : S.tmps.getD 53 undef = (.slice Ai x.i.length ci) := hd 4 _ rfl (by kernel_rfl)
                  refine want_free rfl ?_
                  rw [Array.getD_eq_getD_getElem?] at d53
                  go_simp
                  refine (Hr5.out W hE).mono ?_
                  rintro e W' ⟨v, rfl, hv, hb⟩
                  exact hK _ _ hb (fun _ => (Rd.of (F := fun _ => False) hv).lower (Nat.le_trans Hsz.out hE.size))
                · intro S W K hE hf hd hK
                  have d51 := hd 2 _ rfl (by kernel_rfl)
                  refine want_free rfl ?_
                  go_simp
                  have q := (show Rd W w.heap.size (S.tmps.getD 51 undef) (encIs x.i) from d51)
                  rw [Array.getD_eq_getD_getElem?] at q
                  exact hK _ _ (Ext.refl _) (fun _ => q)
                · intro S W K hE hf hd hK
                  have d54 := hd 5 _ rfl (by kernel_rfl)
                  refine want_free rfl ?_
                  go_simp
                  have q := (show Rd W w.heap.size (S.tmps.getD 54 undef) (encIs x.i) from d54)
                  rw [Array.getD_eq_getD_getElem?] at q
                  exact hK _ _ (Ext.refl _) (fun _ => q)
                · intro S W K hE hf hd hK
                  refine want_free rfl ?_
                  go_simp
                  exact hK _ _ (Ext.refl _) (fun _ => rfl)
              · intro vs W hE hV
                have v0 : vs 0 = (.pointer (some ⟨w.heap.size, 7, none⟩)) := hV 0 _ rfl (fun h => by cases h)
                have v1 : vs 1 = (.slice Ai x.i.length ci) := hV 1 _ rfl (fun h => by cases h)
                have v2 := hV 2 _ rfl (fun h => by cases h)
                have v3 : vs 3 = (.pointer (some ⟨w.heap.size, 7, none⟩)) := hV 3 _ rfl (fun h => by cases h)
                have v4 : vs 4 = (.slice Ai x.i.length ci) := hV 4 _ rfl (fun h => by cases h)
                have v5 := hV 5 _ rfl (fun h => by cases h)
                have v6 := hV 6 _ rfl (fun h => by cases h)
                have v7 := hV 7 _ rfl (fun h => by cases h)
                have v8 : vs 8 = (.bool true) := hV 8 _ rfl (fun h => by cases h)
                clear hV
                set_option maxRecDepth 100000 in simp only [putAll, List.map_cons, List.map_nil, List.length_cons, List.length_nil, Nat.reduceAdd, List.range_succ, List.range_zero, List.nil_append, List.cons_append]
                set_option maxRecDepth 100000 in go_simp
                have q1 := (show Rd W w.heap.size (vs 6) (encIs x.i) from v6)
                have q2 := (show Rd W w.heap.size (vs 7) (encIs x.i) from v7)
                clear v0 v1 v2 v3 v4 v5 v6 v7 v8
                go_wp2
                go_ret3
                exact Hfin.out W hE _ _ _ _ Hl.out Hb.out q1 q2
            · have hb5 : (x.kind == 5) = false := by rw [beq_eq_false_iff_ne]; exact h5
              go_wp2
              go_ret3
              exact Hfin.out _ (Ext.refl _) _ _ _ _ (show [] = tellM x from by unfold tellM; rw [if_neg h0, if_neg h1, if_neg h2, if_neg h3, if_neg h4, if_neg h5]) (show false = toldB x from by unfold toldB; exact (decide_eq_false (by omega)).symm) (Rd.nil _ _) (Rd.nil _ _)
end Go.Proofs.Ytjmeoaookpnknaa
