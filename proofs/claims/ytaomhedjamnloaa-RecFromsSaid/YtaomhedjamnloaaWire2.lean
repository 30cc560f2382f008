/- wire.Reader in memory; contracts: NewReader, good, left, fail, take, uint, Uint, Int. -/
import Derived.Test.YtaomhedjamnloaaProg
import Derived.Test.YtaomhedjamnloaaBase2
import Derived.Test.YtaomhedjamnloaaBase3
import Derived.Test.YtaomhedjamnloaaBytes1
import Derived.Test.YtaomhedjamnloaaWire0
import Derived.Outline
import Derived.WideLaws
import Derived.Deep.DeepMust
import Derived.Deep.DeepCutAuto
set_option linter.unusedVariables false
set_option linter.unusedSimpArgs false
namespace Go.Proofs.Ytaomhedjamnloaa
open Go Go.RowKit

/-- A reader, plain. -/
structure RdM where
  bs : List UInt8
  pos : Nat
  err : Int
def failR (x : RdM) (e : Int) : RdM := if x.err = 0 then { x with err := e } else x
def leftR (x : RdM) : Nat := x.bs.length - x.pos
/-- uint: the next number, whatever the error. -/
def uintR (x : RdM) : Nat × RdM := match getU 0 0 (x.bs.drop x.pos) with
  | some p => (p.1, { x with pos := x.pos + p.2 })
  | none => (0, failR x 6)
def UintR (x : RdM) : Nat × RdM := if x.err = 0 then uintR x else (0, x)
def IntR (x : RdM) : Int × RdM := (zag (UintR x).1, (UintR x).2)
/-- Just block g has changed of what was there. -/
structure Mut (g : Nat) (w w' : World) : Prop where
  os : w'.os = w.os
  tape : w'.tape = w.tape
  output : w'.output = w.output
  size : w.heap.size ≤ w'.heap.size
  block : ∀ k, k < w.heap.size → k ≠ g → w'.heap[k]? = w.heap[k]?
theorem Mut.refl (g : Nat) (w : World) : Mut g w w := ⟨rfl, rfl, rfl, Nat.le_refl _, fun _ _ _ => rfl⟩
theorem Mut.trans {g : Nat} {a b c : World} (h : Mut g a b) (k : Mut g b c) : Mut g a c :=
  ⟨k.os.trans h.os, k.tape.trans h.tape, k.output.trans h.output, Nat.le_trans h.size k.size, fun i hi hr => (k.block i (Nat.lt_of_lt_of_le hi h.size) hr).trans (h.block i hi hr)⟩
theorem Mut.of {g : Nat} {w w' : World} (h : Below w.heap.size w w') : Mut g w w' := ⟨h.os, h.tape, h.output, h.size, fun k hk _ => h.block k hk⟩
theorem Mut.below {g B : Nat} {w w' : World} (h : Mut g w w') (hg : B ≤ g) (hs : B ≤ w.heap.size) : Below B w w' := ⟨h.os, h.tape, h.output, h.size, fun k hk => h.block k (by omega) (by omega)⟩
theorem Mut.set {g : Nat} {w W : World} (h : Mut g w W) (i : Nat) (u : Value) : Mut g w (W.setCell ⟨g, i, none⟩ u) := by
  have hb := (Below.refl 0 W).setCell (p := ⟨g, i, none⟩) (Nat.zero_le _) u
  exact ⟨hb.os.trans h.os, hb.tape.trans h.tape, hb.output.trans h.output, Nat.le_trans h.size hb.size, fun k hk h1 => (Below.heap_setCell W ⟨g, i, none⟩ u k h1).trans (h.block k hk h1)⟩
theorem Mut.drewN {g : Nat} {w W : World} (h : Mut g w W) (n : Nat) : Mut g w (W.drewN n) := ⟨h.os, h.tape, h.output, h.size, h.block⟩
/-- A reader in memory, at block g; its bytes. -/
structure RdAt (w : World) (B g : Nat) (A : Option Addr) (c : Nat) (x : RdM) : Prop where
  base : B ≤ g
  obj : w.heap[g]? = some (.cells #[.slice A x.bs.length c, .int .i64 x.pos, .int .i64 x.err] 140 (0, 0))
  pos : x.pos ≤ x.bs.length
  cap : x.bs.length ≤ c
  max : c ≤ maxLen
  len : x.bs.length ≤ 1099511627776
  far : ∀ a, A = some a → B ≤ a.block ∧ a.block ≠ g ∧ a.block < w.heap.size
  row : Row kb w (fun k => ∃ a, A = some a ∧ k = a.block) A x.bs
section
variable {w w' : World} {B g : Nat} {A : Option Addr} {c : Nat} {x : RdM}
theorem RdAt.lt (h : RdAt w B g A c x) : g < w.heap.size := (Array.getElem?_eq_some_iff.1 h.obj).1
theorem RdAt.move (h : RdAt w B g A c x) (hs : w.heap.size ≤ w'.heap.size) (hm : ∀ k, k < w.heap.size → (k = g ∨ ∃ a, A = some a ∧ k = a.block) → w'.heap[k]? = w.heap[k]?) : RdAt w' B g A c x :=
  ⟨h.base, (hm g h.lt (.inl rfl)).trans h.obj, h.pos, h.cap, h.max, h.len, fun a ha => ⟨(h.far a ha).1, (h.far a ha).2.1, Nat.lt_of_lt_of_le (h.far a ha).2.2 hs⟩, h.row.move fun k hk => by
    obtain ⟨a, ha, rfl⟩ := hk
    exact hm _ (h.far a ha).2.2 (.inr ⟨a, ha, rfl⟩)⟩
theorem RdAt.ext (h : RdAt w B g A c x) (hE : Below w.heap.size w w') : RdAt w' B g A c x := h.move hE.size fun k hk _ => hE.block k hk
theorem RdAt.drewN (h : RdAt w B g A c x) (n : Nat) : RdAt (w.drewN n) B g A c x := h.move (Nat.le_refl _) fun _ _ _ => rfl
/-- It stands elsewhere, or has an error. -/
theorem RdAt.upd (h : RdAt w B g A c x) (hm : Mut g w w') (p : Nat) (e : Int) (ho : w'.heap[g]? = some (.cells #[.slice A x.bs.length c, .int .i64 p, .int .i64 e] 140 (0, 0))) (hp : p ≤ x.bs.length) : RdAt w' B g A c ⟨x.bs, p, e⟩ :=
  ⟨h.base, ho, hp, h.cap, h.max, h.len, fun a ha => ⟨(h.far a ha).1, (h.far a ha).2.1, Nat.lt_of_lt_of_le (h.far a ha).2.2 hm.size⟩, h.row.move fun k hk => by
    obtain ⟨a, ha, rfl⟩ := hk
    exact hm.block _ (h.far a ha).2.2 (h.far a ha).2.1⟩
theorem RdAt.cells (h : RdAt w B g A c x) : w.cell? ⟨g, 0, none⟩ = some (.slice A x.bs.length c) ∧ w.cell? ⟨g, 1, none⟩ = some (.int .i64 x.pos) ∧ w.cell? ⟨g, 2, none⟩ = some (.int .i64 x.err) := by
  simp [World.cell?, h.obj]
theorem RdAt.frozen (h : RdAt w B g A c x) : w.frozen? ⟨g, 1, none⟩ = false ∧ w.frozen? ⟨g, 2, none⟩ = false := by
  simp [World.frozen?, h.obj]
end
theorem heap_set_eq2 (w : World) (r off : Nat) (cs : Array Value) (t : TypeId) (fz : Nat × Nat) (u : Value) (h : w.heap[r]? = some (.cells cs t fz)) : (w.setCell ⟨r, off, none⟩ u).heap[r]? = some (.cells (cs.setIfInBounds off u) t fz) := by
  simp only [World.setCell, Array.getElem?_modify, if_true, h, Option.map_some]
  rfl
/-- What a call of a reader leaves: the answer, the reader, nothing else changed. -/
def RdPost (w : World) (B g : Nat) (A : Option Addr) (c : Nat) (y : RdM) (v : Value) (e : Ending) (w' : World) : Prop := e = .returned v ∧ RdAt w' B g A c y ∧ Mut g w w'
def NewRPost (w : World) (l : List UInt8) (e : Ending) (w' : World) : Prop := ∃ g A c, e = .returned (.pointer (some ⟨g, 0, none⟩)) ∧ RdAt w' w.heap.size g A c ⟨l, 0, 0⟩ ∧ Below w.heap.size w w'
set_option maxRecDepth 8000 in
set_option maxHeartbeats 4000000 in
theorem NewReader_calls (A : Option Addr) (c : Nat) (l : List UInt8) (F : Nat → Prop) (w : World) (hl : l.length ≤ 1099511627776) (hc : l.length ≤ c) (hm : c ≤ maxLen) (hr : Row kb w F A l) :
    Calls Try.prog 57 #[.slice A l.length c] w (NewRPost w l) := by
  have Hc := Lib.hid (Clone_calls A c l F w (by omega) hc hm hr)
  go_enter Try.func57, Try.ntmps57
  go_wp2_with fail
  refine Hc.out.mono ?_
  rintro e w1 ⟨v, rfl, ho, hE⟩
  have hat := fun k (h : v.ownBlock = some k) => ho.at h
  obtain ⟨A2, c2, rfl, h1, h2, hr2⟩ := ho.sl
  go_wp2
  go_ret
  have hb : ∀ a, A2 = some a → w.heap.size ≤ a.block ∧ a.block < w1.heap.size := fun a ha => hat a.block (by rw [ha]; rfl)
  refine ⟨w1.heap.size, A2, c2, rfl, ⟨hE.size, heap_alloc_new _ _, Nat.zero_le _, h1, h2, hl, fun a ha => ?_, ?_⟩, Below.alloc hE hE.size _⟩
  · have := hb a ha
    refine ⟨this.1, by omega, ?_⟩
    rw [show (w1.alloc (.cells #[.slice A2 l.length c2, .int .i64 0, .int .i64 0] 140)).heap.size = w1.heap.size + 1 by simp]
    omega
  · refine (hr2.alloc _).mono fun k hk => ?_
    cases A2 with
    | none => cases hk.resolve_left id
    | some a =>
      have := hk.resolve_left id
      injection this with this
      exact ⟨a, rfl, this.symm⟩
theorem RdAt.post {w w' : World} {B g : Nat} {A : Option Addr} {c : Nat} {y : RdM} (h : RdAt w' B g A c y) (hm : Mut g w w') (v : Value) : RdPost w B g A c y v (.returned v) w' := ⟨rfl, h, hm⟩
set_option maxRecDepth 8000 in
set_option maxHeartbeats 2000000 in
theorem good_calls (w : World) (B g : Nat) (A : Option Addr) (c : Nat) (x : RdM) (h : RdAt w B g A c x) :
    Calls Try.prog 103 #[.pointer (some ⟨g, 0, none⟩)] w fun e w' => e = .returned (.bool (decide (x.err = 0))) ∧ w = w' := by
  obtain ⟨h0, h1, h2⟩ := h.cells
  go_enter Try.func103, Try.ntmps103
  by_cases he : x.err = 0
  · rw [he] at h2 ⊢
    go_wp2
    go_ret
    exact ⟨rfl, rfl⟩
  · have hb : (x.err == 0) = false := by rw [beq_eq_false_iff_ne]; exact he
    go_wp2
    go_ret
    exact ⟨by rw [decide_eq_false he]; simp [hb], rfl⟩
set_option maxRecDepth 8000 in
set_option maxHeartbeats 2000000 in
theorem left_calls (w : World) (B g : Nat) (A : Option Addr) (c : Nat) (x : RdM) (h : RdAt w B g A c x) :
    Calls Try.prog 104 #[.pointer (some ⟨g, 0, none⟩)] w fun e w' => e = .returned (.int .i64 (leftR x : Nat)) ∧ Drawn w w' := by
  obtain ⟨h0, h1, h2⟩ := h.cells
  have hp := h.pos
  have hl := h.len
  have Hl := Lib.hid (show ((leftR x : Nat) : Int) = (x.bs.length : Int) - (x.pos : Int) by unfold leftR; omega)
  rw [Hl.out]
  clear h
  generalize x.bs.length = n at *
  generalize x.pos = p at *
  go_enter Try.func104, Try.ntmps104
  go_wp2_with fail
  go_quiet (fail)
  go_simp
  go_wp2
  go_ret
  exact ⟨rfl, nq, rfl⟩
set_option maxRecDepth 8000 in
set_option maxHeartbeats 2000000 in
theorem fail_calls (w : World) (B g : Nat) (A : Option Addr) (c : Nat) (x : RdM) (h : RdAt w B g A c x) (e0 : Int) :
    Calls Try.prog 105 #[.pointer (some ⟨g, 0, none⟩), .int .i64 e0] w (RdPost w B g A c (failR x e0) (.tuple #[])) := by
  obtain ⟨h0, h1, h2⟩ := h.cells
  obtain ⟨f1, f2⟩ := h.frozen
  unfold failR
  by_cases he : x.err = 0
  · rw [if_pos he]
    have hst := heap_set_eq2 w g 2 _ _ (0, 0) (.int .i64 e0) h.obj
    have hm := (Mut.refl g w).set 2 (.int .i64 e0)
    have Hfin := Lib.hid (h.upd hm x.pos e0 hst h.pos)
    have Hm := Lib.hid hm
    rw [he] at h2
    clear hst hm h
    go_enter Try.func105, Try.ntmps105
    go_wp2
    exact ⟨rfl, .tuple #[], results_none rfl _ _ _, Hfin.out.post Hm.out _⟩
  · rw [if_neg he]
    have hb : (x.err == 0) = false := by rw [beq_eq_false_iff_ne]; exact he
    go_enter Try.func105, Try.ntmps105
    go_wp2
    exact ⟨rfl, .tuple #[], results_none rfl _ _ _, h.post (Mut.refl _ _) _⟩
set_option maxRecDepth 8000 in
set_option maxHeartbeats 2000000 in
theorem take_calls (w : World) (B g : Nat) (A : Option Addr) (c : Nat) (x : RdM) (h : RdAt w B g A c x) (n : Nat) (hn : x.pos + n ≤ x.bs.length) :
    Calls Try.prog 106 #[.pointer (some ⟨g, 0, none⟩), .int .i64 n] w (RdPost w B g A c ⟨x.bs, x.pos + n, x.err⟩ (.slice (cutA A c x.pos 1) n (c - x.pos))) := by
  obtain ⟨h0, h1, h2⟩ := h.cells
  obtain ⟨f1, f2⟩ := h.frozen
  have hl := h.len
  have hc := h.cap
  have hst := heap_set_eq2 w g 1 _ _ (0, 0) (.int .i64 ((x.pos : Int) + (n : Int))) h.obj
  have Hm := Lib.hid ((Mut.refl g w).set 1 (.int .i64 ((x.pos : Int) + (n : Int))))
  have Hfin := Lib.hid (h.upd Hm.out (x.pos + n) x.err (by rw [hst]; simp) hn)
  have hsl := fun W => slice_mid (P := Try.prog) 31 5 1 Try.underlying31 size_u8 A x.bs.length c (x.pos : Int) ((x.pos : Int) + (n : Int)) (by omega) (by omega) (by omega) W .i64 .i64
  have e1 : ((x.pos : Int)).toNat = x.pos := by omega
  have e2 : ((x.pos : Int) + (n : Int)).toNat - x.pos = n := by omega
  simp only [e1, e2] at hsl
  clear e1 e2
  obtain ⟨q0, q1⟩ : (w.setCell ⟨g, 1, none⟩ (.int .i64 ((x.pos : Int) + (n : Int)))).cell? ⟨g, 0, none⟩ = some (.slice A x.bs.length c) ∧ (w.setCell ⟨g, 1, none⟩ (.int .i64 ((x.pos : Int) + (n : Int)))).cell? ⟨g, 1, none⟩ = some (.int .i64 ((x.pos : Int) + (n : Int))) := by
    simp [World.cell?, hst]
  clear hst h
  generalize x.bs.length = len at *
  generalize x.pos = p at *
  go_enter Try.func106, Try.ntmps106
  go_wp2_with fail
  generalize w.setCell ⟨g, 1, none⟩ (.int .i64 ((p : Int) + (n : Int))) = w1 at *
  go_quiet (fail)
  go_simp
  go_wp2
  go_ret
  exact (Hfin.out.drewN nq).post (Hm.out.drewN nq) _
theorem getU_ten (acc : Nat) : ∀ l, getU 10 acc l = none
  | [] => rfl
  | c :: r => by unfold getU; rw [if_pos (by omega)]
theorem uintR_none {x : RdM} (h : getU 0 0 (x.bs.drop x.pos) = none) : uintR x = (0, failR x 6) := by unfold uintR; rw [h]
theorem uintR_some {x : RdM} {p : Nat × Nat} (h : getU 0 0 (x.bs.drop x.pos) = some p) : uintR x = (p.1, { x with pos := x.pos + p.2 }) := by unfold uintR; rw [h]
set_option maxRecDepth 8000 in
set_option maxHeartbeats 4000000 in
theorem uint_calls (w : World) (B g : Nat) (A : Option Addr) (c : Nat) (x : RdM) (h : RdAt w B g A c x) :
    Calls Try.prog 127 #[.pointer (some ⟨g, 0, none⟩)] w (RdPost w B g A c (uintR x).2 (.int .u64 (uintR x).1)) := by
  have hl := h.len
  have hpp := h.pos
  go_enter Try.func127, Try.ntmps127
  go_wp2_with fail
  go_loopw [3, 4] (fun n i w' => ∃ k a : Nat, k ≤ 10 ∧ x.pos + k ≤ x.bs.length ∧ i = .int .i64 k ∧ n = .int .u64 a ∧ a < 2 ^ (7 * k) ∧ Hid (getU 0 0 (x.bs.drop x.pos) = getU k a (x.bs.drop (x.pos + k))) ∧ ∃ q, w' = w.drewN q) (fun _ i _ => 10 - (intOf i).toNat)
  case atStart => exact ⟨0, 0, by omega, by omega, rfl, rfl, by decide, Lib.hid rfl, 0, rfl⟩
  case round =>
    obtain ⟨k, a, hk, hpk, rfl, rfl, ha, Hg, q, rfl⟩ := hrel
    have hq := h.drewN q
    by_cases h10 : k < 10
    · have Hlf := Lib.hid (left_calls _ _ _ _ _ _ hq)
      have hlf : leftR x = x.bs.length - x.pos := rfl
      go_wp2_with fail
      refine Hlf.out.mono ?_
      rintro e w2 ⟨rfl, q2, rfl⟩
      have hq2 := hq.drewN q2
      have Hw := Lib.hid (And.intro (World.drewN_drewN w q q2) (((Mut.refl g w).drewN q).drewN q2))
      generalize (w.drewN q).drewN q2 = w2 at *
      by_cases hkl : k < leftR x
      · obtain ⟨ad, rfl, hcell⟩ := hq2.row.u8_at (x.pos + k) (by omega)
        have Hdr := Lib.hid (List.drop_eq_getElem_cons (show x.pos + k < x.bs.length by omega))
        obtain ⟨h0, h1, h2⟩ := hq2.cells
        have hcv := (x.bs[x.pos + k]).toNat_lt
        generalize x.bs[x.pos + k] = cb at *
        generalize hcn : cb.toNat = cv at *
        have hpl : x.pos + k < x.bs.length := by omega
        clear hlf
        generalize leftR x = lf at *
        go_upto_region 6 with fail
        go_quiet (fail)
        go_simp
        have hq3 := hq2.drewN nq
        have Hw3 := Lib.hid (show w2.drewN nq = w.drewN (q + q2 + nq) ∧ Mut g w (w2.drewN nq) from ⟨by rw [Hw.out.1, World.drewN_drewN], Hw.out.2.drewN nq⟩)
        have hg9 : Hid (getU 0 0 (x.bs.drop x.pos) = getU k a (cb :: x.bs.drop (x.pos + k + 1))) := Lib.hid (by rw [Hg.out, Hdr.out])
        generalize w2.drewN nq = w3 at *
        clear hcell h0 h1 h2 hq2 Hw hq h Hdr Hg
        have hP := pow7_succ k
        have hP0 : 0 < 2 ^ (7 * k) := Nat.two_pow_pos _
        by_cases h9 : k = 9 ∧ 1 < cv
        · obtain ⟨rfl, h1c⟩ := h9
          have hnone : getU 0 0 (x.bs.drop x.pos) = none := by
            rw [hg9.out]
            unfold getU
            rw [if_neg (by omega), if_pos ⟨rfl, by rw [hcn]; exact h1c⟩]
          go_wp2_with fail
          refine (fail_calls w3 B g _ c x hq3 6).mono ?_
          rintro e w4 ⟨rfl, hr4, hm4⟩
          have Hfin := Lib.hid (show RdPost w B g (some ad) c (uintR x).2 (.int .u64 (uintR x).1) (.returned (.int .u64 0)) w4 by rw [uintR_none hnone]; exact hr4.post (Hw3.out.2.trans hm4) _)
          go_wp2
          go_ret
          exact Hfin.out
        · obtain ⟨hor, hlt64⟩ := or_step a k cv ha (by omega) hcv
          have hb : a + cv % 128 * 2 ^ (7 * k) < 2 ^ (7 * (k + 1)) := by
            have : cv % 128 * 2 ^ (7 * k) ≤ 127 * 2 ^ (7 * k) := Nat.mul_le_mul_right _ (by omega)
            rw [hP]
            omega
          by_cases h128 : 128 ≤ cv
          · have hk9 : ((k : Int) == 9) = false := by rw [beq_eq_false_iff_ne]; omega
            have Hnx := Lib.hid (show getU 0 0 (x.bs.drop x.pos) = getU (k + 1) (a + cv % 128 * 2 ^ (7 * k)) (x.bs.drop (x.pos + (k + 1))) by
              rw [hg9.out]
              conv => lhs; unfold getU
              rw [hcn, if_neg (by omega), if_neg (by omega), if_pos h128, Nat.add_assoc])
            have Hb := Lib.hid (And.intro hb (And.intro hlt64 hP))
            clear hb hlt64 hP ha hP0
            go_wp2_with fail
            refine ⟨⟨k + 1, a + cv % 128 * 2 ^ (7 * k), by omega, by omega, by rw [Int.natCast_succ], by push_cast; rfl, Hb.out.1, Hnx, _, Hw3.out.1⟩, ?_⟩
            have e1 : intOf (Value.int .i64 ((k : Int) + 1)) = (k : Int) + 1 := rfl
            have e2 : intOf (Value.int .i64 (k : Int)) = (k : Int) := rfl
            rw [e1, e2]
            omega
          · by_cases h0 : cv = 0 ∧ 0 < k
            · obtain ⟨rfl, hk0⟩ := h0
              have hnone : getU 0 0 (x.bs.drop x.pos) = none := by
                rw [hg9.out]
                unfold getU
                rw [hcn, if_neg (by omega), if_neg (by omega), if_neg (by omega), if_pos ⟨rfl, hk0⟩]
              have Hfl := Lib.hid (fail_calls w3 B g _ c x hq3 6)
              clear hb hlt64 hP ha hP0
              by_cases hk9 : k = 9
              · have hk9' : ((k : Int) == 9) = true := by rw [beq_iff_eq]; omega
                go_wp2_with fail
                refine Hfl.out.mono ?_
                rintro e w4 ⟨rfl, hr4, hm4⟩
                have Hfin := Lib.hid (show RdPost w B g (some ad) c (uintR x).2 (.int .u64 (uintR x).1) (.returned (.int .u64 0)) w4 by rw [uintR_none hnone]; exact hr4.post (Hw3.out.2.trans hm4) _)
                go_wp2
                go_ret
                exact Hfin.out
              · have hk9' : ((k : Int) == 9) = false := by rw [beq_eq_false_iff_ne]; omega
                go_wp2_with fail
                refine Hfl.out.mono ?_
                rintro e w4 ⟨rfl, hr4, hm4⟩
                have Hfin := Lib.hid (show RdPost w B g (some ad) c (uintR x).2 (.int .u64 (uintR x).1) (.returned (.int .u64 0)) w4 by rw [uintR_none hnone]; exact hr4.post (Hw3.out.2.trans hm4) _)
                go_wp2
                go_ret
                exact Hfin.out
            · obtain ⟨c0, c1, c2⟩ := hq3.cells
              obtain ⟨f1, f2⟩ := hq3.frozen
              have hsome : getU 0 0 (x.bs.drop x.pos) = some (a + cv % 128 * 2 ^ (7 * k), k + 1) := by
                rw [hg9.out]
                unfold getU
                rw [hcn, if_neg (by omega), if_neg (by omega), if_neg (by omega), if_neg h0]
              have hst := heap_set_eq2 w3 g 1 _ _ (0, 0) (.int .i64 ((x.pos : Int) + ((k : Int) + 1))) hq3.obj
              have Hm := Lib.hid (Hw3.out.2.set 1 (.int .i64 ((x.pos : Int) + ((k : Int) + 1))))
              have hr4 := hq3.upd ((Mut.refl g w3).set 1 (.int .i64 ((x.pos : Int) + ((k : Int) + 1)))) (x.pos + (k + 1)) x.err (by rw [hst]; simp) (by omega)
              have Hfin := Lib.hid (show ∀ n : Int, n = ((a + cv % 128 * 2 ^ (7 * k) : Nat) : Int) → RdPost w B g (some ad) c (uintR x).2 (.int .u64 (uintR x).1) (.returned (.int .u64 n)) (w3.setCell ⟨g, 1, none⟩ (.int .i64 ((x.pos : Int) + ((k : Int) + 1)))) by
                rintro n rfl
                rw [uintR_some hsome]
                exact hr4.post Hm.out _)
              have Hor := Lib.hid hor
              clear hb hlt64 hP ha hP0 hst hr4 hsome hor
              have hz : ((cv : Int) == 0 && decide (0 < (k : Int))) = false := by
                rw [Bool.and_eq_false_iff, beq_eq_false_iff_ne, decide_eq_false_iff_not]
                omega
              by_cases hk9 : k = 9
              · have hk9' : ((k : Int) == 9) = true := by rw [beq_iff_eq]; omega
                have hd9 : decide (1 < (cv : Int)) = false := decide_eq_false (by omega)
                by_cases hc0 : cv = 0
                · have hc0' : ((cv : Int) == 0) = true := by rw [beq_iff_eq]; omega
                  omega
                · have hc0' : ((cv : Int) == 0) = false := by rw [beq_eq_false_iff_ne]; omega
                  clear hc0 hk9
                  go_wp2_with fail
                  go_ret
                  exact Hfin.out _ Hor.out
              · have hk9' : ((k : Int) == 9) = false := by rw [beq_eq_false_iff_ne]; omega
                by_cases hc0 : cv = 0
                · have hc0' : ((cv : Int) == 0) = true := by rw [beq_iff_eq]; omega
                  have hk0 : decide (0 < (k : Int)) = false := decide_eq_false (by omega)
                  have hk0' : decide (0 < k) = false := decide_eq_false (by omega)
                  clear hc0 hk9
                  go_wp2_with fail
                  go_ret
                  exact Hfin.out _ Hor.out
                · have hc0' : ((cv : Int) == 0) = false := by rw [beq_eq_false_iff_ne]; omega
                  clear hc0 hk9
                  go_wp2_with fail
                  go_ret
                  exact Hfin.out _ Hor.out
      · have hnone : getU 0 0 (x.bs.drop x.pos) = none := by
          rw [Hg.out, List.drop_eq_nil_of_le (by omega)]
          rfl
        go_wp2_with fail
        refine (fail_calls w2 B g A c x hq2 6).mono ?_
        rintro e w3 ⟨rfl, hr3, hm3⟩
        have Hfin := Lib.hid (show RdPost w B g A c (uintR x).2 (.int .u64 (uintR x).1) (.returned (.int .u64 0)) w3 by rw [uintR_none hnone]; exact hr3.post (Hw.out.2.trans hm3) _)
        go_wp2
        go_ret
        exact Hfin.out
    · obtain rfl : k = 10 := by omega
      have hnone : getU 0 0 (x.bs.drop x.pos) = none := by rw [Hg.out, getU_ten]
      go_wp2_with fail
      refine (fail_calls _ B g A c x hq 6).mono ?_
      rintro e w3 ⟨rfl, hr3, hm3⟩
      have Hfin := Lib.hid (show RdPost w B g A c (uintR x).2 (.int .u64 (uintR x).1) (.returned (.int .u64 0)) w3 by rw [uintR_none hnone]; exact hr3.post (((Mut.refl g w).drewN q).trans hm3) _)
      go_wp2
      go_ret
      exact Hfin.out
end Go.Proofs.Ytaomhedjamnloaa