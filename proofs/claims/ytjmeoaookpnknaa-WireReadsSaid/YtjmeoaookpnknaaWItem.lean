/- An item; contract: cut. -/
import Derived.Test.YtjmeoaookpnknaaWire4
import Derived.Test.YtjmeoaookpnknaaRWire1
set_option linter.unusedVariables false
set_option linter.unusedSimpArgs false
namespace Go.Proofs.Ytjmeoaookpnknaa
open Go Go.RowKit

/-- An item, plain. -/
structure ItM where
  kind : Int
  u : Nat
  n : Int
  m : Int
  s : ByteArray
  on : Bool
  l : List ByteArray
  i : List Int
def itC (x : ItM) (Al : Option Addr) (cl : Nat) (Ai : Option Addr) (ci : Nat) : Array Value :=
  #[.int .i64 x.kind, .int .u64 x.u, .int .i64 x.n, .int .i64 x.m, .string x.s, .bool x.on, .slice Al x.l.length cl, .slice Ai x.i.length ci]
/-- What an item's parts may be. -/
structure ItOk (x : ItM) : Prop where
  u : x.u < 18446744073709551616
  n : -9223372036854775808 ≤ x.n ∧ x.n ≤ 9223372036854775807
  m : -9223372036854775808 ≤ x.m ∧ x.m ≤ 9223372036854775807
/-- An item's lists in memory. -/
structure ItAt (w : World) (B : Nat) (x : ItM) (Al : Option Addr) (cl : Nat) (Ai : Option Addr) (ci : Nat) : Prop where
  ok : ItOk x
  lc : x.l.length ≤ cl ∧ cl ≤ maxLen
  ic : x.i.length ≤ ci ∧ ci ≤ maxLen
  l : Row str w (fun k => k < B) Al x.l
  i : Row (num .i64) w (fun k => k < B) Ai x.i
theorem ItAt.below {w w' : World} {B : Nat} {x : ItM} {Al Ai : Option Addr} {cl ci : Nat} (h : ItAt w B x Al cl Ai ci) (hE : Below B w w') : ItAt w' B x Al cl Ai ci :=
  ⟨h.ok, h.lc, h.ic, h.l.belowF (fun _ h => h) hE, h.i.belowF (fun _ h => h) hE⟩
/-- Not too long. -/
structure Short (x : ItM) : Prop where
  s : x.s.size ≤ 300
  l : x.l.length ≤ 12 ∧ ∀ s ∈ x.l, s.size ≤ 60
  i : x.i.length ≤ 20
def CutPost (w : World) (e : Ending) (w' : World) : Prop := ∃ y Al cl Ai ci, e = .returned (.agg (itC y Al cl Ai ci)) ∧ ItAt w' w'.heap.size y Al cl Ai ci ∧ Short y ∧ Below w.heap.size w w'
/-- .. and where its lists lie. -/
def CutPost2 (w : World) (B : Nat) (e : Ending) (w' : World) : Prop := ∃ y Al cl Ai ci, e = .returned (.agg (itC y Al cl Ai ci)) ∧ ItAt w' w'.heap.size y Al cl Ai ci ∧ Short y ∧ Below w.heap.size w w' ∧ Row str w' (fun k => w.heap.size ≤ k ∧ k < w'.heap.size) Al y.l ∧ Row (num .i64) w' (fun k => k < B) Ai y.i
theorem ItAt.up {w : World} {B B' : Nat} {x : ItM} {Al Ai : Option Addr} {cl ci : Nat} (h : ItAt w B x Al cl Ai ci) (hB : B ≤ B') : ItAt w B' x Al cl Ai ci :=
  ⟨h.ok, h.lc, h.ic, h.l.mono fun _ hk => Nat.lt_of_lt_of_le hk hB, h.i.mono fun _ hk => Nat.lt_of_lt_of_le hk hB⟩
theorem heap_set_neq (w : World) (r off : Nat) (u : Value) (k : Nat) (h : k ≠ r) : (w.setCell ⟨r, off, none⟩ u).heap[k]? = w.heap[k]? := Below.heap_setCell w ⟨r, off, none⟩ u k h
/-- The two blocks of cut: the item, and what is answered. -/
structure Bx (w W : World) (x : ItM) (Al : Option Addr) (cl : Nat) (Ai : Option Addr) (ci : Nat) : Prop where
  it : W.heap[w.heap.size]? = some (.cells (itC x Al cl Ai ci) 33 (0, 0))
  out : W.heap[w.heap.size + 1]? = some (.cells #[.int .i64 0, .int .u64 0, .int .i64 0, .int .i64 0, .string ⟨#[]⟩, .bool false, .slice none 0 0, .slice none 0 0] 33 (0, 0))
  below : Below w.heap.size w W
theorem Bx.start (w : World) (x : ItM) (Al : Option Addr) (cl : Nat) (Ai : Option Addr) (ci : Nat) : Bx w ((w.alloc (.cells (itC x Al cl Ai ci) 33)).alloc (.cells #[.int .i64 0, .int .u64 0, .int .i64 0, .int .i64 0, .string ⟨#[]⟩, .bool false, .slice none 0 0, .slice none 0 0] 33)) x Al cl Ai ci := by
  refine ⟨?_, ?_, ((Below.refl _ _).alloc (Nat.le_refl _) _).alloc (by simp) _⟩
  · rw [heap_alloc_old _ _ (by simp)]
    exact heap_alloc_new _ _
  · have := heap_alloc_new (w.alloc (.cells (itC x Al cl Ai ci) 33)) (.cells #[.int .i64 0, .int .u64 0, .int .i64 0, .int .i64 0, .string ⟨#[]⟩, .bool false, .slice none 0 0, .slice none 0 0] 33)
    rwa [show (w.alloc (.cells (itC x Al cl Ai ci) 33)).heap.size = w.heap.size + 1 by simp] at this
theorem Bx.set {w W : World} {x y : ItM} {Al Bl Ai Bi : Option Addr} {cl dl ci di : Nat} (h : Bx w W x Al cl Ai ci) (off : Nat) (u : Value) (hy : (itC x Al cl Ai ci).setIfInBounds off u = itC y Bl dl Bi di) : Bx w (W.setCell ⟨w.heap.size, off, none⟩ u) y Bl dl Bi di := by
  refine ⟨?_, ?_, h.below.setCell (Nat.le_refl _) _⟩
  · rw [heap_set_eq2 W _ off _ _ (0, 0) u h.it, hy]
  · rw [heap_set_neq _ _ _ _ _ (by omega)]
    exact h.out
theorem Bx.below2 {w W W' : World} {x : ItM} {Al Ai : Option Addr} {cl ci : Nat} (h : Bx w W x Al cl Ai ci) (hE : Below (w.heap.size + 2) W W') : Bx w W' x Al cl Ai ci :=
  ⟨(hE.block _ (by omega)).trans h.it, (hE.block _ (by omega)).trans h.out, Below.trans h.below (Below.mono hE (by omega))⟩
theorem Bx.size {w W : World} {x : ItM} {Al Ai : Option Addr} {cl ci : Nat} (h : Bx w W x Al cl Ai ci) : w.heap.size + 2 ≤ W.heap.size := by
  have := (Array.getElem?_eq_some_iff.1 h.out).1
  omega
theorem Bx.cells {w W : World} {x : ItM} {Al Ai : Option Addr} {cl ci : Nat} (h : Bx w W x Al cl Ai ci) :
    W.cell? ⟨w.heap.size, 4, none⟩ = some (.string x.s) ∧ W.cell? ⟨w.heap.size, 6, none⟩ = some (.slice Al x.l.length cl) ∧ W.cell? ⟨w.heap.size, 7, none⟩ = some (.slice Ai x.i.length ci) ∧ W.frozen? ⟨w.heap.size, 4, none⟩ = false ∧ W.frozen? ⟨w.heap.size, 6, none⟩ = false ∧ W.frozen? ⟨w.heap.size, 7, none⟩ = false := by
  simp [World.cell?, World.frozen?, h.it, itC]
theorem cell_at {W : World} {r : Nat} {cs : Array Value} {t : TypeId} {fz : Nat × Nat} (h : W.heap[r]? = some (.cells cs t fz)) (k : Nat) : W.cell? ⟨r, k, none⟩ = cs[k]? := by simp [World.cell?, h]
theorem frozen_at {W : World} {r : Nat} {cs : Array Value} {t : TypeId} (h : W.heap[r]? = some (.cells cs t (0, 0))) (k : Nat) : W.frozen? ⟨r, k, none⟩ = false := by simp [World.frozen?, h]
theorem put8 (W : World) (r : Nat) (a0 a1 a2 a3 a4 a5 a6 a7 x0 x1 x2 x3 x4 x5 x6 x7 : Value) (t : TypeId) (h : W.heap[r]? = some (.cells #[a0, a1, a2, a3, a4, a5, a6, a7] t (0, 0))) :
    W.cell? ⟨r, 0, none⟩ = some a0 ∧
    W.frozen? ⟨r, 0, none⟩ = false ∧
    (W.setCell ⟨r, 0, none⟩ x0).cell? ⟨r, 1, none⟩ = some a1 ∧
    (W.setCell ⟨r, 0, none⟩ x0).frozen? ⟨r, 1, none⟩ = false ∧
    ((W.setCell ⟨r, 0, none⟩ x0).setCell ⟨r, 1, none⟩ x1).cell? ⟨r, 2, none⟩ = some a2 ∧
    ((W.setCell ⟨r, 0, none⟩ x0).setCell ⟨r, 1, none⟩ x1).frozen? ⟨r, 2, none⟩ = false ∧
    (((W.setCell ⟨r, 0, none⟩ x0).setCell ⟨r, 1, none⟩ x1).setCell ⟨r, 2, none⟩ x2).cell? ⟨r, 3, none⟩ = some a3 ∧
    (((W.setCell ⟨r, 0, none⟩ x0).setCell ⟨r, 1, none⟩ x1).setCell ⟨r, 2, none⟩ x2).frozen? ⟨r, 3, none⟩ = false ∧
    ((((W.setCell ⟨r, 0, none⟩ x0).setCell ⟨r, 1, none⟩ x1).setCell ⟨r, 2, none⟩ x2).setCell ⟨r, 3, none⟩ x3).cell? ⟨r, 4, none⟩ = some a4 ∧
    ((((W.setCell ⟨r, 0, none⟩ x0).setCell ⟨r, 1, none⟩ x1).setCell ⟨r, 2, none⟩ x2).setCell ⟨r, 3, none⟩ x3).frozen? ⟨r, 4, none⟩ = false ∧
    (((((W.setCell ⟨r, 0, none⟩ x0).setCell ⟨r, 1, none⟩ x1).setCell ⟨r, 2, none⟩ x2).setCell ⟨r, 3, none⟩ x3).setCell ⟨r, 4, none⟩ x4).cell? ⟨r, 5, none⟩ = some a5 ∧
    (((((W.setCell ⟨r, 0, none⟩ x0).setCell ⟨r, 1, none⟩ x1).setCell ⟨r, 2, none⟩ x2).setCell ⟨r, 3, none⟩ x3).setCell ⟨r, 4, none⟩ x4).frozen? ⟨r, 5, none⟩ = false ∧
    ((((((W.setCell ⟨r, 0, none⟩ x0).setCell ⟨r, 1, none⟩ x1).setCell ⟨r, 2, none⟩ x2).setCell ⟨r, 3, none⟩ x3).setCell ⟨r, 4, none⟩ x4).setCell ⟨r, 5, none⟩ x5).cell? ⟨r, 6, none⟩ = some a6 ∧
    ((((((W.setCell ⟨r, 0, none⟩ x0).setCell ⟨r, 1, none⟩ x1).setCell ⟨r, 2, none⟩ x2).setCell ⟨r, 3, none⟩ x3).setCell ⟨r, 4, none⟩ x4).setCell ⟨r, 5, none⟩ x5).frozen? ⟨r, 6, none⟩ = false ∧
    (((((((W.setCell ⟨r, 0, none⟩ x0).setCell ⟨r, 1, none⟩ x1).setCell ⟨r, 2, none⟩ x2).setCell ⟨r, 3, none⟩ x3).setCell ⟨r, 4, none⟩ x4).setCell ⟨r, 5, none⟩ x5).setCell ⟨r, 6, none⟩ x6).cell? ⟨r, 7, none⟩ = some a7 ∧
    (((((((W.setCell ⟨r, 0, none⟩ x0).setCell ⟨r, 1, none⟩ x1).setCell ⟨r, 2, none⟩ x2).setCell ⟨r, 3, none⟩ x3).setCell ⟨r, 4, none⟩ x4).setCell ⟨r, 5, none⟩ x5).setCell ⟨r, 6, none⟩ x6).frozen? ⟨r, 7, none⟩ = false ∧ ((((((((W.setCell ⟨r, 0, none⟩ x0).setCell ⟨r, 1, none⟩ x1).setCell ⟨r, 2, none⟩ x2).setCell ⟨r, 3, none⟩ x3).setCell ⟨r, 4, none⟩ x4).setCell ⟨r, 5, none⟩ x5).setCell ⟨r, 6, none⟩ x6).setCell ⟨r, 7, none⟩ x7).heap[r]? = some (.cells #[x0, x1, x2, x3, x4, x5, x6, x7] t (0, 0)) ∧ (∀ k, k ≠ r → ((((((((W.setCell ⟨r, 0, none⟩ x0).setCell ⟨r, 1, none⟩ x1).setCell ⟨r, 2, none⟩ x2).setCell ⟨r, 3, none⟩ x3).setCell ⟨r, 4, none⟩ x4).setCell ⟨r, 5, none⟩ x5).setCell ⟨r, 6, none⟩ x6).setCell ⟨r, 7, none⟩ x7).heap[k]? = W.heap[k]?) ∧ ((((((((W.setCell ⟨r, 0, none⟩ x0).setCell ⟨r, 1, none⟩ x1).setCell ⟨r, 2, none⟩ x2).setCell ⟨r, 3, none⟩ x3).setCell ⟨r, 4, none⟩ x4).setCell ⟨r, 5, none⟩ x5).setCell ⟨r, 6, none⟩ x6).setCell ⟨r, 7, none⟩ x7).heap.size = W.heap.size ∧ ∀ B w0, Below B w0 W → B ≤ r → Below B w0 ((((((((W.setCell ⟨r, 0, none⟩ x0).setCell ⟨r, 1, none⟩ x1).setCell ⟨r, 2, none⟩ x2).setCell ⟨r, 3, none⟩ x3).setCell ⟨r, 4, none⟩ x4).setCell ⟨r, 5, none⟩ x5).setCell ⟨r, 6, none⟩ x6).setCell ⟨r, 7, none⟩ x7) := by
  have h0 : (W.setCell ⟨r, 0, none⟩ x0).heap[r]? = some (.cells #[x0, a1, a2, a3, a4, a5, a6, a7] t (0, 0)) := heap_set_eq2 W r 0 _ t (0, 0) x0 h
  have h1 : ((W.setCell ⟨r, 0, none⟩ x0).setCell ⟨r, 1, none⟩ x1).heap[r]? = some (.cells #[x0, x1, a2, a3, a4, a5, a6, a7] t (0, 0)) := heap_set_eq2 (W.setCell ⟨r, 0, none⟩ x0) r 1 _ t (0, 0) x1 h0
  have h2 : (((W.setCell ⟨r, 0, none⟩ x0).setCell ⟨r, 1, none⟩ x1).setCell ⟨r, 2, none⟩ x2).heap[r]? = some (.cells #[x0, x1, x2, a3, a4, a5, a6, a7] t (0, 0)) := heap_set_eq2 ((W.setCell ⟨r, 0, none⟩ x0).setCell ⟨r, 1, none⟩ x1) r 2 _ t (0, 0) x2 h1
  have h3 : ((((W.setCell ⟨r, 0, none⟩ x0).setCell ⟨r, 1, none⟩ x1).setCell ⟨r, 2, none⟩ x2).setCell ⟨r, 3, none⟩ x3).heap[r]? = some (.cells #[x0, x1, x2, x3, a4, a5, a6, a7] t (0, 0)) := heap_set_eq2 (((W.setCell ⟨r, 0, none⟩ x0).setCell ⟨r, 1, none⟩ x1).setCell ⟨r, 2, none⟩ x2) r 3 _ t (0, 0) x3 h2
  have h4 : (((((W.setCell ⟨r, 0, none⟩ x0).setCell ⟨r, 1, none⟩ x1).setCell ⟨r, 2, none⟩ x2).setCell ⟨r, 3, none⟩ x3).setCell ⟨r, 4, none⟩ x4).heap[r]? = some (.cells #[x0, x1, x2, x3, x4, a5, a6, a7] t (0, 0)) := heap_set_eq2 ((((W.setCell ⟨r, 0, none⟩ x0).setCell ⟨r, 1, none⟩ x1).setCell ⟨r, 2, none⟩ x2).setCell ⟨r, 3, none⟩ x3) r 4 _ t (0, 0) x4 h3
  have h5 : ((((((W.setCell ⟨r, 0, none⟩ x0).setCell ⟨r, 1, none⟩ x1).setCell ⟨r, 2, none⟩ x2).setCell ⟨r, 3, none⟩ x3).setCell ⟨r, 4, none⟩ x4).setCell ⟨r, 5, none⟩ x5).heap[r]? = some (.cells #[x0, x1, x2, x3, x4, x5, a6, a7] t (0, 0)) := heap_set_eq2 (((((W.setCell ⟨r, 0, none⟩ x0).setCell ⟨r, 1, none⟩ x1).setCell ⟨r, 2, none⟩ x2).setCell ⟨r, 3, none⟩ x3).setCell ⟨r, 4, none⟩ x4) r 5 _ t (0, 0) x5 h4
  have h6 : (((((((W.setCell ⟨r, 0, none⟩ x0).setCell ⟨r, 1, none⟩ x1).setCell ⟨r, 2, none⟩ x2).setCell ⟨r, 3, none⟩ x3).setCell ⟨r, 4, none⟩ x4).setCell ⟨r, 5, none⟩ x5).setCell ⟨r, 6, none⟩ x6).heap[r]? = some (.cells #[x0, x1, x2, x3, x4, x5, x6, a7] t (0, 0)) := heap_set_eq2 ((((((W.setCell ⟨r, 0, none⟩ x0).setCell ⟨r, 1, none⟩ x1).setCell ⟨r, 2, none⟩ x2).setCell ⟨r, 3, none⟩ x3).setCell ⟨r, 4, none⟩ x4).setCell ⟨r, 5, none⟩ x5) r 6 _ t (0, 0) x6 h5
  have h7 : ((((((((W.setCell ⟨r, 0, none⟩ x0).setCell ⟨r, 1, none⟩ x1).setCell ⟨r, 2, none⟩ x2).setCell ⟨r, 3, none⟩ x3).setCell ⟨r, 4, none⟩ x4).setCell ⟨r, 5, none⟩ x5).setCell ⟨r, 6, none⟩ x6).setCell ⟨r, 7, none⟩ x7).heap[r]? = some (.cells #[x0, x1, x2, x3, x4, x5, x6, x7] t (0, 0)) := heap_set_eq2 (((((((W.setCell ⟨r, 0, none⟩ x0).setCell ⟨r, 1, none⟩ x1).setCell ⟨r, 2, none⟩ x2).setCell ⟨r, 3, none⟩ x3).setCell ⟨r, 4, none⟩ x4).setCell ⟨r, 5, none⟩ x5).setCell ⟨r, 6, none⟩ x6) r 7 _ t (0, 0) x7 h6
  exact ⟨(cell_at h 0).trans rfl, frozen_at h 0, (cell_at h0 1).trans rfl, frozen_at h0 1, (cell_at h1 2).trans rfl, frozen_at h1 2, (cell_at h2 3).trans rfl, frozen_at h2 3, (cell_at h3 4).trans rfl, frozen_at h3 4, (cell_at h4 5).trans rfl, frozen_at h4 5, (cell_at h5 6).trans rfl, frozen_at h5 6, (cell_at h6 7).trans rfl, frozen_at h6 7, h7, fun k hk => by rw [heap_set_neq _ _ _ _ _ hk, heap_set_neq _ _ _ _ _ hk, heap_set_neq _ _ _ _ _ hk, heap_set_neq _ _ _ _ _ hk, heap_set_neq _ _ _ _ _ hk, heap_set_neq _ _ _ _ _ hk, heap_set_neq _ _ _ _ _ hk, heap_set_neq _ _ _ _ _ hk], by simp [World.setCell], fun B w0 hb hr => ((((((((hb.setCell (p := ⟨r, 0, none⟩) hr x0).setCell (p := ⟨r, 1, none⟩) hr x1).setCell (p := ⟨r, 2, none⟩) hr x2).setCell (p := ⟨r, 3, none⟩) hr x3).setCell (p := ⟨r, 4, none⟩) hr x4).setCell (p := ⟨r, 5, none⟩) hr x5).setCell (p := ⟨r, 6, none⟩) hr x6).setCell (p := ⟨r, 7, none⟩) hr x7)⟩
theorem load_item (r : Nat) (a0 a1 a2 a3 a4 a5 a6 a7 : Value) (w : World) (h : w.heap[r]? = some (.cells #[a0, a1, a2, a3, a4, a5, a6, a7] 33 (0, 0))) : (loadVar 33 ⟨r, 0, none⟩).run Try.prog w = .ok (.agg #[a0, a1, a2, a3, a4, a5, a6, a7]) w := by
  have h0 : w.cell? ⟨r, 0, none⟩ = some a0 := by simp [World.cell?, h]
  have h1 : w.cell? ⟨r, 1, none⟩ = some a1 := by simp [World.cell?, h]
  have h2 : w.cell? ⟨r, 2, none⟩ = some a2 := by simp [World.cell?, h]
  have h3 : w.cell? ⟨r, 3, none⟩ = some a3 := by simp [World.cell?, h]
  have h4 : w.cell? ⟨r, 4, none⟩ = some a4 := by simp [World.cell?, h]
  have h5 : w.cell? ⟨r, 5, none⟩ = some a5 := by simp [World.cell?, h]
  have h6 : w.cell? ⟨r, 6, none⟩ = some a6 := by simp [World.cell?, h]
  have h7 : w.cell? ⟨r, 7, none⟩ = some a7 := by simp [World.cell?, h]
  go_simp
theorem results_cell1 {P : Program} {fn : Func} {t : Tmp} {ty : TypeId} (h : fn.results = #[.cell t ty]) (tmps : Array Value) (w : World) (x : Value) (ad : Addr) (hp : tmps.getD t undef = .pointer (some ad)) (hl : (loadVar ty ad).run P w = .ok x w) :
    (results fn tmps).run P w = .ok x w := by
  rw [Array.getD_eq_getD_getElem?] at hp
  simp [results, h, hp, asAddr, hl]
set_option maxRecDepth 100000 in
set_option maxHeartbeats 8000000 in
theorem cut_calls2 (w : World) (B : Nat) (hB : B ≤ w.heap.size) (x : ItM) (Al : Option Addr) (cl : Nat) (Ai : Option Addr) (ci : Nat) (hw : ItAt w B x Al cl Ai ci) (hs : x.s.size ≤ maxLen) :
    Calls Try.prog 13 #[.agg (itC x Al cl Ai ci)] w (CutPost2 w B) := by
  have h := hw.up hB
  have hwi := hw.i
  clear hw
  have hs63 : x.s.size ≤ 9223372036854775807 := by unfold maxLen at hs; omega
  have hbx := Bx.start w x Al cl Ai ci
  have Hbx := Lib.hid hbx
  clear hbx
  unfold itC at *
  go_enter Try.func13, Try.ntmps13
  go_upto_if 9 with fail
  generalize ((w.alloc (.cells #[.int .i64 x.kind, .int .u64 x.u, .int .i64 x.n, .int .i64 x.m, .string x.s, .bool x.on, .slice Al x.l.length cl, .slice Ai x.i.length ci] 33)).alloc (.cells #[.int .i64 0, .int .u64 0, .int .i64 0, .int .i64 0, .string ⟨#[]⟩, .bool false, .slice none 0 0, .slice none 0 0] 33)) = W1 at *
  go_cut [10] (fun v wx => ∃ s : ByteArray, s.size ≤ 300 ∧ Bx w wx { x with s := s } Al cl Ai ci)
  case first =>
    obtain ⟨c4, c6, c7, f4, f6, f7⟩ := Hbx.out.cells
    by_cases h300 : 300 < x.s.size
    · go_wp2
      go_meet
      exact ⟨x.s.extract 0 300, by rw [ByteArray.size_extract]; omega, Hbx.out.set 4 _ rfl⟩
    · go_wp2
      go_meet
      exact ⟨x.s, by omega, Hbx.out⟩
  case rest =>
    obtain ⟨s, hs, hbx⟩ := hcut
    have Hbx := Lib.hid hbx
    obtain ⟨c4, c6, c7, f4, f6, f7⟩ := hbx.cells
    simp only at c4 c6 c7
    clear hbx
    have hlc := h.lc
    have hl63 : x.l.length ≤ 9223372036854775807 := by unfold maxLen at hlc; omega
    have hic := h.ic
    have hi63 : x.i.length ≤ 9223372036854775807 := by unfold maxLen at hic; omega
    go_upto_if 17 with fail
    go_cut [18] (fun v wx => ∃ l : List ByteArray, l.length ≤ 12 ∧ Row str w (fun k => k < w.heap.size) Al l ∧ Bx w wx { x with s := s, l := l } Al cl Ai ci)
    case first =>
      by_cases h12 : 12 < x.l.length
      · have hsl := fun W => slice_to (P := Try.prog) 30 9 Try.underlying30 (by kernel_rfl) Al x.l.length cl 12 (by decide) (by omega) W .i64
        rw [show (12 : Int).toNat = 12 from rfl] at hsl
        go_wp2
        go_meet
        have hlen : (x.l.take 12).length = 12 := by rw [List.length_take]; omega
        exact ⟨x.l.take 12, by omega, h.l.take 12, Hbx.out.set 6 _ (by simp only [itC, hlen]; rfl)⟩
      · go_wp2
        go_meet
        exact ⟨x.l, by omega, h.l, Hbx.out⟩
    case rest =>
      obtain ⟨l, hl12, hrl, hbx⟩ := hcut
      have hbelow := hbx.below
      have hsz2 := hbx.size
      have Hbx := Lib.hid hbx
      obtain ⟨c4, c6, c7, f4, f6, f7⟩ := hbx.cells
      simp only at c4 c6 c7
      clear hbx
      go_wp2_with fail
      go_loopw [3, 25] (fun v i w' => ∃ (k : Nat) (o : List ByteArray), k ≤ l.length ∧ i = .int .i64 k ∧ o.length = k ∧ Hid (∀ s ∈ o, s.size ≤ 60) ∧ Own str 9 w' (w.heap.size + 2) (fun _ => False) v o ∧ Hid (Bx w w' { x with s := s, l := l } Al cl Ai ci)) (fun _ i _ => l.length - (intOf i).toNat)
      case atStart => exact ⟨0, [], by omega, rfl, rfl, Lib.hid (fun s hs => by cases hs), Own.nil _ _ _ _ _, Hbx⟩
      case round =>
        obtain ⟨k, o, hk, rfl, hok, Ho60, ho, HB⟩ := hrel
        by_cases hlt : k < l.length
        · obtain ⟨ad, hA1, hcell⟩ := (hrl.belowF (fun _ h => h) HB.out.below).str_at k hlt
          subst hA1
          generalize l[k] = t at *
          have hsB := HB.out.size
          obtain ⟨A3, c3, e3, _, _⟩ := ho.slice
          subst e3
          go_upto_if 31 with fail
          go_cut [5] (fun v wx => (∃ t2 : ByteArray, v = .string t2 ∧ t2.size ≤ 60) ∧ wr = wx)
          case first =>
            by_cases h60 : 60 < t.size
            · go_wp2
              go_meet
              exact ⟨⟨t.extract 0 60, rfl, by rw [ByteArray.size_extract]; omega⟩, rfl⟩
            · go_wp2
              go_meet
              exact ⟨⟨t, rfl, by omega⟩, rfl⟩
          case rest =>
            obtain ⟨⟨t2, rfl, ht2⟩, rfl⟩ := hcut
            have hb := Lib.hid (boxed1 (heap_alloc_new wr (.cells #[.string t2] 9)))
            have HB2 := Lib.hid (fun w4 (hg : (wr.alloc (.cells #[.string t2] 9)).grownBy w4 (Value.slice A3 o.length c3).ownBlock) => show Bx w w4 { x with s := s, l := l } (some ad) cl Ai ci from
              HB.out.below2 (Below.grown ((Below.refl _ _).alloc hsB _) hg (by simp; omega) (fun j hj => (ho.at hj).1)))
            go_wp2_with (at_builtin; go_must (refine app_onef str flat_str (w.heap.size + 2) rfl (.tmp 34) (.tmp 36) 30 9 16 rfl Try.underlying30 info_str (.slice A3 o.length c3) o t2 wr.heap.size [.string t2] (fun _ => False) rfl rfl (ho.alloc _) hb.out ⟨rfl, by simp only [maxLen]; omega⟩ (by omega) (by simp only [maxLen]; omega) (by simp; omega) ?_; intro v4 w4 ho4 hg4 ha4))
            go_roundw
            case rel =>
              refine ⟨k + 1, o ++ [t2], hlt, by rw [Int.natCast_succ], by rw [List.length_append, hok]; rfl, Lib.hid (fun s hs => ?_), ho4, Lib.hid (HB2.out w4 hg4)⟩
              rcases List.mem_append.1 hs with hs | hs
              · exact Ho60.out s hs
              · rw [List.mem_singleton.1 hs]; exact ht2
            case measure =>
              have e1 : intOf (Value.int .i64 ((k : Int) + 1)) = (k : Int) + 1 := rfl
              have e2 : intOf (Value.int .i64 (k : Int)) = (k : Int) := rfl
              rw [e1, e2]
              omega
        · obtain rfl : k = l.length := by omega
          have Hok := Lib.hid hok
          clear hok
          have hat := fun j (hj : u3.ownBlock = some j) => ho.at hj
          obtain ⟨A3, c3, e3, h31, h32, hr3⟩ := ho.sl
          have hr3m := hr3.mono (G := fun k => w.heap.size + 2 ≤ k ∧ k < wr.heap.size) fun j hj => hat j (hj.resolve_left id)
          subst e3
          obtain ⟨c4, c6, c7, f4, f6, f7⟩ := HB.out.cells
          have hb13 := HB.out.set (y := { x with s := s, l := o }) (Bl := A3) (dl := c3) (Bi := Ai) (di := ci) 6 (.slice A3 o.length c3) rfl
          have hm13 : ∀ k, k ≠ w.heap.size → (wr.setCell ⟨w.heap.size, 6, none⟩ (.slice A3 o.length c3)).heap[k]? = wr.heap[k]? := fun k hk => heap_set_neq _ _ _ _ _ hk
          have hs13 : (wr.setCell ⟨w.heap.size, 6, none⟩ (.slice A3 o.length c3)).heap.size = wr.heap.size := by simp [World.setCell]
          have Hst := Lib.hid (And.intro hb13 (And.intro hm13 hs13))
          obtain ⟨d4, d6, d7, g4, g6, g7⟩ := hb13.cells
          simp only at d4 d6 d7
          clear hb13 hm13 ho hat
          have Hr3 := Lib.hid hr3m
          clear hr3 hr3m
          go_upto_if 44 with fail
          generalize hw13 : wr.setCell ⟨w.heap.size, 6, none⟩ (.slice A3 o.length c3) = w13 at *
          clear hw13
          go_cut [45] (fun v wx => ∃ i : List Int, i.length ≤ 20 ∧ Row (num .i64) w (fun k => k < B) Ai i ∧ i.length ≤ x.i.length ∧ Hid (Bx w wx { x with s := s, l := o, i := i } A3 c3 Ai ci ∧ (∀ k, k ≠ w.heap.size → wx.heap[k]? = w13.heap[k]?) ∧ wx.heap.size = w13.heap.size))
          case first =>
            by_cases h20 : 20 < x.i.length
            · have hsl := fun W => slice_to (P := Try.prog) 31 2 Try.underlying31 (by kernel_rfl) Ai x.i.length ci 20 (by decide) (by omega) W .i64
              rw [show (20 : Int).toNat = 20 from rfl] at hsl
              go_wp2
              go_meet
              have hlen : (x.i.take 20).length = 20 := by rw [List.length_take]; omega
              exact ⟨x.i.take 20, by omega, hwi.take 20, by omega, Lib.hid ⟨Hst.out.1.set 7 _ (by simp only [itC, hlen]; rfl), fun k hk => heap_set_neq _ _ _ _ _ hk, by simp [World.setCell]⟩⟩
            · go_wp2
              go_meet
              exact ⟨x.i, by omega, hwi, Nat.le_refl _, Lib.hid ⟨Hst.out.1, fun _ _ => rfl, rfl⟩⟩
          case rest =>
            obtain ⟨i, hi20, hri, hile, Hbi⟩ := hcut
            obtain ⟨hbi, hmi, hsi⟩ := Hbi.out
            have hit := hbi.it
            obtain ⟨i0, i1, i2, i3, i4, i5, i6, i7⟩ : wc.cell? ⟨w.heap.size, 0, none⟩ = some (.int .i64 x.kind) ∧ wc.cell? ⟨w.heap.size, 1, none⟩ = some (.int .u64 x.u) ∧ wc.cell? ⟨w.heap.size, 2, none⟩ = some (.int .i64 x.n) ∧ wc.cell? ⟨w.heap.size, 3, none⟩ = some (.int .i64 x.m) ∧ wc.cell? ⟨w.heap.size, 4, none⟩ = some (.string s) ∧ wc.cell? ⟨w.heap.size, 5, none⟩ = some (.bool x.on) ∧ wc.cell? ⟨w.heap.size, 6, none⟩ = some (.slice A3 o.length c3) ∧ wc.cell? ⟨w.heap.size, 7, none⟩ = some (.slice Ai i.length ci) :=
              ⟨(cell_at hit 0).trans rfl, (cell_at hit 1).trans rfl, (cell_at hit 2).trans rfl, (cell_at hit 3).trans rfl, (cell_at hit 4).trans rfl, (cell_at hit 5).trans rfl, (cell_at hit 6).trans rfl, (cell_at hit 7).trans rfl⟩
            obtain ⟨p0, q0, p1, q1, p2, q2, p3, q3, p4, q4, p5, q5, p6, q6, p7, q7, hp, hpm, hps, hpb⟩ := put8 wc (w.heap.size + 1) _ _ _ _ _ _ _ _ (.int .i64 x.kind) (.int .u64 x.u) (.int .i64 x.n) (.int .i64 x.m) (.string s) (.bool x.on) (.slice A3 o.length c3) (.slice Ai i.length ci) _ hbi.out
            have Hp := Lib.hid (And.intro hp (And.intro hpm (And.intro hps hpb)))
            clear hp hit hpm hps hpb
            go_wp2_with fail
            refine bodyPost_ret (results_cell1 rfl _ _ _ ⟨w.heap.size + 1, 0, none⟩ rfl (load_item _ _ _ _ _ _ _ _ _ _ Hp.out.1)) rfl ?_
            have hbel := Hp.out.2.2.2 _ _ hbi.below (by omega)
            have hsz8 := Hp.out.2.2.1
            have hmv := Hp.out.2.1
            refine ⟨{ x with s := s, l := o, i := i }, A3, c3, Ai, ci, rfl, ⟨⟨h.ok.u, h.ok.n, h.ok.m⟩, ⟨h31, h32⟩, ⟨Nat.le_trans hile hic.1, hic.2⟩, ?_, ?_⟩, ⟨hs, ⟨by rw [Hok.out]; exact hl12, Ho60.out⟩, hi20⟩, hbel, ?_, hri.belowF (fun _ h => Nat.lt_of_lt_of_le h hB) hbel⟩
            · refine (Hr3.out.move fun k hk => ?_).mono fun k hk => ?_
              · rw [hmv k (by omega), hmi k (by omega), Hst.out.2.1 k (by omega)]
              · have h1 := Hst.out.2.2
                rw [hsz8, hsi, h1]
                exact hk.2
            · refine (hri.belowF (fun _ h => Nat.lt_of_lt_of_le h hB) hbel).mono fun k hk => Nat.lt_of_lt_of_le hk (Nat.le_trans hB hbel.size)
            · refine (Hr3.out.move fun k hk => ?_).mono fun k hk => ?_
              · rw [hmv k (by omega), hmi k (by omega), Hst.out.2.1 k (by omega)]
              · have h1 := Hst.out.2.2
                rw [hsz8, hsi, h1]
                exact ⟨by omega, hk.2⟩
theorem cut_calls (w : World) (x : ItM) (Al : Option Addr) (cl : Nat) (Ai : Option Addr) (ci : Nat) (h : ItAt w w.heap.size x Al cl Ai ci) (hs : x.s.size ≤ maxLen) :
    Calls Try.prog 13 #[.agg (itC x Al cl Ai ci)] w (CutPost w) :=
  (cut_calls2 w w.heap.size (Nat.le_refl _) x Al cl Ai ci h hs).mono fun e w' ⟨y, Bl, dl, Bi, di, h1, h2, h3, h4, _⟩ => ⟨y, Bl, dl, Bi, di, h1, h2, h3, h4⟩
end Go.Proofs.Ytjmeoaookpnknaa
