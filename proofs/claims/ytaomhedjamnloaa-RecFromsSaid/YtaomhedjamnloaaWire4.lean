/- Contracts of wire.Reader's methods: Rest, Bytes. -/
import Derived.Test.YtaomhedjamnloaaWire3
import Derived.Deep.RegionWith
set_option linter.unusedVariables false
set_option linter.unusedSimpArgs false
namespace Go.Proofs.Ytaomhedjamnloaa
open Go Go.RowKit

def restL (x : RdM) : List UInt8 := if x.err = 0 then x.bs.drop x.pos else []
def RestR (x : RdM) : RdM := if x.err = 0 then ⟨x.bs, x.bs.length, x.err⟩ else x
/-- What a call of a reader leaves that answers bytes of its own. -/
def RdOwn (w : World) (B g : Nat) (A : Option Addr) (c : Nat) (y : RdM) (l : List UInt8) (e : Ending) (w' : World) : Prop := ∃ v, e = .returned v ∧ Own kb 5 w' w.heap.size (fun _ => False) v l ∧ RdAt w' B g A c y ∧ Mut g w w'
/-- All that is left, taken and copied. -/
theorem takeRest_calls (w : World) (B g : Nat) (A : Option Addr) (c : Nat) (x : RdM) (h : RdAt w B g A c x) :
    Calls Try.prog 106 #[.pointer (some ⟨g, 0, none⟩), .int .i64 (leftR x : Nat)] w fun e w' => e = .returned (.slice (cutA A c x.pos 1) (leftR x) (c - x.pos)) ∧ RdAt w' B g A c ⟨x.bs, x.bs.length, x.err⟩ ∧ Mut g w w' := by
  have hp := h.pos
  have ht := take_calls w B g A c x h (leftR x) (by unfold leftR; omega)
  refine ht.mono ?_
  rintro e w' ⟨rfl, hr, hm⟩
  refine ⟨rfl, ?_, hm⟩
  have : x.pos + leftR x = x.bs.length := by unfold leftR; omega
  rw [this] at hr
  exact hr
theorem cloneRest_calls (w : World) (B g : Nat) (A : Option Addr) (c : Nat) (x y : RdM) (h : RdAt w B g A c y) (hy : y.bs = x.bs) (hp : x.pos ≤ x.bs.length) :
    Calls Try.prog 102 #[.slice (cutA A c x.pos 1) (leftR x) (c - x.pos)] w fun e w' => ∃ v, e = .returned v ∧ Own kb 5 w' w.heap.size (fun _ => False) v (x.bs.drop x.pos) ∧ Below w.heap.size w w' := by
  have hl := h.len
  have hc := h.cap
  have hm := h.max
  have hr := h.row
  rw [hy] at hl hc hr
  have hcut := hr.cut_from c x.pos 1 rfl hp hc
  have hlen : (x.bs.drop x.pos).length = leftR x := by rw [List.length_drop]; rfl
  have := Clone_calls (cutA A c x.pos 1) (c - x.pos) (x.bs.drop x.pos) _ w (by rw [hlen]; unfold leftR; omega) (by rw [hlen]; unfold leftR; omega) (by omega) hcut
  rw [hlen] at this
  exact this
def BytesR (x : RdM) (n : Int) : RdM := if x.err = 0 then (if n < 0 then failR x 2 else if (leftR x : Int) < n then failR x 6 else ⟨x.bs, x.pos + n.toNat, x.err⟩) else x
def bytesL (x : RdM) (n : Int) : List UInt8 := if x.err = 0 then (if n < 0 then [] else if (leftR x : Int) < n then [] else (x.bs.drop x.pos).take n.toNat) else []
/-- A number between two bounds. -/
def WithinR (x : RdM) (lo hi : Int) : Int × RdM :=
  if x.err = 0 then
    (if (IntR x).2.err = 0 then (if (IntR x).1 < lo ∨ hi < (IntR x).1 then (0, ⟨(IntR x).2.bs, x.pos, 8⟩) else IntR x) else (0, (IntR x).2))
  else (0, x)
theorem IntR_i64 (x : RdM) : -9223372036854775808 ≤ (IntR x).1 ∧ (IntR x).1 ≤ 9223372036854775807 := zag_i64 (UintR_lt x)
theorem UintR_bs (x : RdM) : (UintR x).2.bs = x.bs := by
  unfold UintR
  split
  · exact uintR_bs x
  · rfl
set_option maxRecDepth 8000 in
set_option maxHeartbeats 4000000 in
theorem rdWithin_calls (w : World) (B g : Nat) (A : Option Addr) (c : Nat) (x : RdM) (h : RdAt w B g A c x) (lo hi : Int) :
    Calls Try.prog 81 #[.pointer (some ⟨g, 0, none⟩), .int .i64 lo, .int .i64 hi] w (RdPost w B g A c (WithinR x lo hi).2 (.int .i64 (WithinR x lo hi).1)) := by
  have Hg := Lib.hid (good_calls w B g A c x h)
  have Hi := Lib.hid (rdInt_calls w B g A c x h)
  by_cases he : x.err = 0
  · have hd : decide (x.err = 0) = true := decide_eq_true he
    have hW : WithinR x lo hi = (if (IntR x).2.err = 0 then (if (IntR x).1 < lo ∨ hi < (IntR x).1 then (0, ⟨(IntR x).2.bs, x.pos, 8⟩) else IntR x) else (0, (IntR x).2)) := if_pos he
    have hbs : (IntR x).2.bs = x.bs := UintR_bs x
    obtain ⟨p0, p1, p2⟩ := h.cells
    have hxp := h.pos
    generalize IntR x = y at *
    obtain ⟨n, y⟩ := y
    simp only at *
    by_cases hye : y.err = 0
    · have hyd : (y.err == 0) = true := by rw [beq_iff_eq]; exact hye
      by_cases hout : n < lo ∨ hi < n
      · rw [hW, if_pos hye, if_pos hout]
        have Hout := Lib.hid hout
        clear hW hout
        by_cases hlo : n < lo
        · go_enter Try.func81, Try.ntmps81
          go_wp2_with fail
          refine Hg.out.mono ?_
          rintro e w' ⟨rfl, rfl⟩
          go_wp2_with fail
          refine Hi.out.mono ?_
          rintro e w2 ⟨rfl, hr, hm2⟩
          obtain ⟨k0, k1, k2⟩ := hr.cells
          obtain ⟨f1, f2⟩ := hr.frozen
          obtain ⟨hb, hmb⟩ := hr.back x.pos (by rw [hbs]; exact hxp)
          go_wp2_with fail
          refine (fail_calls _ B g A c _ hb 8).mono ?_
          rintro e w3 ⟨rfl, hr3, hm3⟩
          rw [show failR ⟨y.bs, x.pos, y.err⟩ 8 = ⟨y.bs, x.pos, 8⟩ from if_pos hye] at hr3
          obtain ⟨l0, l1, l2⟩ := hr3.cells
          go_wp2
          go_ret
          exact hr3.post ((hm2.trans hmb).trans hm3) _
        · have hhi : hi < n := Hout.out.resolve_left hlo
          go_enter Try.func81, Try.ntmps81
          go_wp2_with fail
          refine Hg.out.mono ?_
          rintro e w' ⟨rfl, rfl⟩
          go_wp2_with fail
          refine Hi.out.mono ?_
          rintro e w2 ⟨rfl, hr, hm2⟩
          obtain ⟨k0, k1, k2⟩ := hr.cells
          obtain ⟨f1, f2⟩ := hr.frozen
          obtain ⟨hb, hmb⟩ := hr.back x.pos (by rw [hbs]; exact hxp)
          go_wp2_with fail
          refine (fail_calls _ B g A c _ hb 8).mono ?_
          rintro e w3 ⟨rfl, hr3, hm3⟩
          rw [show failR ⟨y.bs, x.pos, y.err⟩ 8 = ⟨y.bs, x.pos, 8⟩ from if_pos hye] at hr3
          obtain ⟨l0, l1, l2⟩ := hr3.cells
          go_wp2
          go_ret
          exact hr3.post ((hm2.trans hmb).trans hm3) _
      · rw [hW, if_pos hye, if_neg hout]
        have hlo : ¬ n < lo := fun h => hout (.inl h)
        have hhi : ¬ hi < n := fun h => hout (.inr h)
        clear hW hout
        go_enter Try.func81, Try.ntmps81
        go_wp2_with fail
        refine Hg.out.mono ?_
        rintro e w' ⟨rfl, rfl⟩
        go_wp2_with fail
        refine Hi.out.mono ?_
        rintro e w2 ⟨rfl, hr, hm2⟩
        obtain ⟨k0, k1, k2⟩ := hr.cells
        go_wp2
        go_ret
        exact hr.post hm2 _
    · have hyd : (y.err == 0) = false := by rw [beq_eq_false_iff_ne]; exact hye
      rw [hW, if_neg hye]
      clear hW
      go_enter Try.func81, Try.ntmps81
      go_wp2_with fail
      refine Hg.out.mono ?_
      rintro e w' ⟨rfl, rfl⟩
      go_wp2_with fail
      refine Hi.out.mono ?_
      rintro e w2 ⟨rfl, hr, hm2⟩
      obtain ⟨k0, k1, k2⟩ := hr.cells
      go_wp2
      go_ret
      exact hr.post hm2 _
  · have hd : decide (x.err = 0) = false := decide_eq_false he
    rw [show WithinR x lo hi = (0, x) from if_neg he]
    go_enter Try.func81, Try.ntmps81
    go_wp2_with fail
    refine Hg.out.mono ?_
    rintro e w' ⟨rfl, rfl⟩
    go_wp2
    go_ret
    exact h.post (Mut.refl _ _) _
/-- How many elements; the error, if it is too many. -/
def countR (x : RdM) (most : Int) : RdM := if (uintR x).2.err = 0 ∧ (max most 0).toNat < (uintR x).1 then failR (uintR x).2 7 else (uintR x).2
theorem countR_bs (x : RdM) (most : Int) : (countR x most).bs = x.bs := by
  unfold countR
  split
  · rw [failR_bs, uintR_bs]
  · exact uintR_bs x
def CountPost (w : World) (B g : Nat) (A : Option Addr) (c : Nat) (x : RdM) (most : Int) (e : Ending) (w' : World) : Prop := e = .returned (.tuple #[.int .i64 (wrap64 ((uintR x).1 : Nat)), .bool (decide ((countR x most).err = 0))]) ∧ RdAt w' B g A c (countR x most) ∧ Mut g w w'
/-- So many elements, or as many as there are up to the first fault. -/
def manyR {α : Type} (f : RdM → α × RdM) : Nat → RdM → List α × RdM
  | 0, y => ([], y)
  | n + 1, y => if y.err = 0 then ((f y).1 :: (manyR f n (f y).2).1, (manyR f n (f y).2).2) else ([], y)
theorem manyR_bad {α : Type} (f : RdM → α × RdM) {y : RdM} (h : y.err ≠ 0) : ∀ n, manyR f n y = ([], y)
  | 0 => rfl
  | n + 1 => if_neg h
def listR {α : Type} (f : RdM → α × RdM) (x : RdM) (count : Int) : List α × RdM :=
  if x.err = 0 then (if (manyR f (uintR x).1 (countR x count)).2.err = 0 then manyR f (uintR x).1 (countR x count) else ([], backR x (manyR f (uintR x).1 (countR x count)).2))
  else ([], x)
def IntsR (x : RdM) (count : Int) : List Int × RdM := listR IntR x count
def TextsR (x : RdM) (count most : Int) : List ByteArray × RdM := listR (fun y => TextR y most) x count
theorem uintR_pos {x : RdM} (h : (uintR x).2.err = 0) : (∃ p, getU 0 0 (x.bs.drop x.pos) = some p) ∧ x.pos < (uintR x).2.pos ∨ x.err ≠ 0 := by
  unfold uintR at h ⊢
  cases hg : getU 0 0 (x.bs.drop x.pos) with
  | none =>
    rw [hg] at h
    simp only at h
    unfold failR at h
    split at h
    · cases h
    · rename_i h2
      exact .inr h2
  | some p =>
    have := getU_le _ _ _ _ hg
    exact .inl ⟨⟨p, rfl⟩, by show x.pos < x.pos + p.2; omega⟩
theorem IntR_pos {x : RdM} (he : x.err = 0) (h : (IntR x).2.err = 0) : x.pos < (IntR x).2.pos := by
  unfold IntR UintR at h ⊢
  rw [if_pos he] at h ⊢
  exact ((uintR_pos h).resolve_right (fun h2 => h2 he)).2
theorem TextR_pos {x : RdM} {most : Int} (he : x.err = 0) (h : (TextR x most).2.err = 0) : x.pos < (TextR x most).2.pos := by
  unfold TextR at h ⊢
  rw [if_pos he] at h ⊢
  split at h
  · rename_i hy
    rw [if_pos hy]
    have hp := ((uintR_pos hy).resolve_right (fun h2 => h2 he)).2
    split at h
    · unfold backR failR at h
      rw [if_pos hy] at h
      cases h
    · rename_i h7
      rw [if_neg h7]
      split at h
      · unfold backR failR at h
        rw [if_pos hy] at h
        cases h
      · rename_i h6
        rw [if_neg h6]
        show x.pos < (uintR x).2.pos + (uintR x).1
        omega
  · rename_i hy
    exact (hy h).elim
theorem TextR_bs (x : RdM) (most : Int) : (TextR x most).2.bs = x.bs := by
  unfold TextR
  split
  · split
    · split
      · show (failR (uintR x).2 7).bs = x.bs
        rw [failR_bs, uintR_bs]
      · split
        · show (failR (uintR x).2 6).bs = x.bs
          rw [failR_bs, uintR_bs]
        · exact uintR_bs x
    · exact uintR_bs x
  · rfl
/-- What a call of a reader leaves that answers a list of its own. -/
def RdList {α : Type} (d : Kd α) (e : TypeId) (w : World) (B g : Nat) (A : Option Addr) (c : Nat) (y : RdM) (l : List α) (en : Ending) (w' : World) : Prop := ∃ v, en = .returned v ∧ Own d e w' w.heap.size (fun _ => False) v l ∧ RdAt w' B g A c y ∧ Mut g w w'
/-- In the midst of a list: k elements of N have been read; there is no error, or there is one. -/
structure Midst {α : Type} (f : RdM → α × RdM) (x1 : RdM) (N k : Nat) (y : RdM) (l : List α) : Prop where
  bs : y.bs = x1.bs
  eq : manyR f N x1 = (l ++ (manyR f (N - k) y).1, (manyR f (N - k) y).2)
  good : y.err = 0 → l.length ≤ y.pos ∧ x1.err = 0
  len : l.length ≤ y.bs.length + 1
  le : k ≤ N
theorem Midst.start {α : Type} (f : RdM → α × RdM) (x1 : RdM) (N : Nat) : Midst f x1 N 0 x1 [] := ⟨rfl, rfl, fun h => ⟨Nat.zero_le _, h⟩, Nat.zero_le _, Nat.zero_le _⟩
theorem Midst.step {α : Type} {f : RdM → α × RdM} {x1 : RdM} {N k : Nat} {y : RdM} {l : List α} (h : Midst f x1 N k y l) (hy : y.err = 0) (hk : k < N) (hb : (f y).2.bs = y.bs) (hp : (f y).2.err = 0 → y.pos < (f y).2.pos) (hyp : y.pos ≤ y.bs.length) : Midst f x1 N (k + 1) (f y).2 (l ++ [(f y).1]) := by
  have h1 := h.eq
  obtain ⟨h2, h3⟩ := h.good hy
  have e1 : N - k = (N - (k + 1)) + 1 := by omega
  refine ⟨hb.trans h.bs, ?_, fun hz => ⟨?_, h3⟩, ?_, hk⟩
  · rw [h1, e1, manyR, if_pos hy, List.append_assoc]
    rfl
  · have := hp hz
    rw [List.length_append, List.length_singleton]
    omega
  · rw [List.length_append, List.length_singleton, hb]
    omega
theorem Midst.done {α : Type} {f : RdM → α × RdM} {x1 : RdM} {N k : Nat} {y : RdM} {l : List α} (h : Midst f x1 N k y l) (hd : y.err ≠ 0 ∨ k = N) : manyR f N x1 = (l, y) := by
  rw [h.eq]
  rcases hd with hd | hd
  · rw [manyR_bad f hd, List.append_nil]
  · subst hd
    rw [Nat.sub_self, manyR, List.append_nil]
theorem countR_ok {x : RdM} {count : Int} (hcount : count ≤ 9223372036854775807) (h0 : (countR x count).err = 0) : ((uintR x).1 : Int) ≤ 9223372036854775807 := by
  unfold countR at h0
  split at h0
  · rename_i h7
    unfold failR at h0
    rw [if_pos h7.1] at h0
    cases h0
  · rename_i h7
    have := fun h => h7 ⟨h0, h⟩
    omega
theorem Mut.grown {g : Nat} {w W w4 : World} {o : Obj} {row : Option Nat} (h : Mut g w W) (hg : (W.alloc o).grownBy w4 row) (hr : ∀ j, row = some j → w.heap.size ≤ j) : Mut g w w4 := by
  have hs : (W.alloc o).heap.size = W.heap.size + 1 := by simp
  have h1 := h.size
  have h2 := hg.size
  exact ⟨hg.os.trans h.os, hg.tape.trans h.tape, hg.output.trans h.output, by omega, fun k hk hne => (hg.block k (by omega) (fun e => by have := hr k e.symm; omega)).trans ((heap_alloc_old W o (by omega)).trans (h.block k hk hne))⟩
theorem RdAt.grown {w W w4 : World} {B g : Nat} {A : Option Addr} {c : Nat} {x y : RdM} {o : Obj} {row : Option Nat} (h0 : RdAt w B g A c x) (h : RdAt W B g A c y) (hw : w.heap.size ≤ W.heap.size) (hg : (W.alloc o).grownBy w4 row) (hr : ∀ j, row = some j → w.heap.size ≤ j) : RdAt w4 B g A c y := by
  have hs : (W.alloc o).heap.size = W.heap.size + 1 := by simp
  have h2 := hg.size
  refine h.move (by omega) fun k hk hor => ?_
  have hkw : k < w.heap.size := by
    rcases hor with rfl | ⟨a, ha, rfl⟩
    · exact h0.lt
    · exact (h0.far a ha).2.2
  exact (hg.block k (by omega) (fun e => by have := hr k e.symm; omega)).trans (heap_alloc_old W o hk)
theorem num64_one (w : World) (F : Nat → Prop) (n : Int) (h : -9223372036854775808 ≤ n ∧ n ≤ 9223372036854775807) : (num .i64).K w F n [.int .i64 n] := by
  refine ⟨rfl, ?_⟩
  simpa [Lit.wf, IntKind.min, IntKind.max, IntKind.signed, IntKind.bits] using h
theorem info_i64 : (Try.prog.info? 2).map (fun i => (i.zero.map (fun z => z.cells.size), i.size, i.bytes)) = some (some (num .i64).sz, (num .i64).sz, 8) := by kernel_rfl
theorem flat_num (k : IntKind) : Flat (num k) := flat_sc _ _ _
theorem TextR_size (x : RdM) (most : Int) : (TextR x most).1.size ≤ x.bs.length := by
  unfold TextR
  split
  · split
    · split
      · exact Nat.zero_le _
      · split
        · exact Nat.zero_le _
        · show ((((uintR x).2.bs.drop (uintR x).2.pos).take (uintR x).1).toArray).size ≤ x.bs.length
          rw [List.size_toArray, List.length_take, List.length_drop, uintR_bs]
          omega
    · exact Nat.zero_le _
  · exact Nat.zero_le _
theorem info_str : (Try.prog.info? 9).map (fun i => (i.zero.map (fun z => z.cells.size), i.size, i.bytes)) = some (some str.sz, str.sz, 16) := by kernel_rfl
theorem flat_str : Flat str := flat_sc _ _ _
end Go.Proofs.Ytaomhedjamnloaa
