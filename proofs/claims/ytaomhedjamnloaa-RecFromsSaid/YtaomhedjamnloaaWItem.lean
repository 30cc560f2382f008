/- An item; contract: cut. -/
import Derived.Test.YtaomhedjamnloaaWire4
import Derived.Test.YtaomhedjamnloaaRWire1
set_option linter.unusedVariables false
set_option linter.unusedSimpArgs false
namespace Go.Proofs.Ytaomhedjamnloaa
open Go Go.RowKit

/-- An item, plain. -/
structure ItM where
  kind : Int
  u : Nat
  n : Int
  m : Int
  s : ByteArray
  on : Bool
  l : List ByteArray
  i : List Int
def itC (x : ItM) (Al : Option Addr) (cl : Nat) (Ai : Option Addr) (ci : Nat) : Array Value :=
  #[.int .i64 x.kind, .int .u64 x.u, .int .i64 x.n, .int .i64 x.m, .string x.s, .bool x.on, .slice Al x.l.length cl, .slice Ai x.i.length ci]
/-- What an item's parts may be. -/
structure ItOk (x : ItM) : Prop where
  u : x.u < 18446744073709551616
  n : -9223372036854775808 ≤ x.n ∧ x.n ≤ 9223372036854775807
  m : -9223372036854775808 ≤ x.m ∧ x.m ≤ 9223372036854775807
/-- An item's lists in memory. -/
structure ItAt (w : World) (B : Nat) (x : ItM) (Al : Option Addr) (cl : Nat) (Ai : Option Addr) (ci : Nat) : Prop where
  ok : ItOk x
  lc : x.l.length ≤ cl ∧ cl ≤ maxLen
  ic : x.i.length ≤ ci ∧ ci ≤ maxLen
  l : Row str w (fun k => k < B) Al x.l
  i : Row (num .i64) w (fun k => k < B) Ai x.i
theorem ItAt.below {w w' : World} {B : Nat} {x : ItM} {Al Ai : Option Addr} {cl ci : Nat} (h : ItAt w B x Al cl Ai ci) (hE : Below B w w') : ItAt w' B x Al cl Ai ci :=
  ⟨h.ok, h.lc, h.ic, h.l.belowF (fun _ h => h) hE, h.i.belowF (fun _ h => h) hE⟩
/-- Not too long. -/
structure Short (x : ItM) : Prop where
  s : x.s.size ≤ 300
  l : x.l.length ≤ 12 ∧ ∀ s ∈ x.l, s.size ≤ 60
  i : x.i.length ≤ 20
def CutPost (w : World) (e : Ending) (w' : World) : Prop := ∃ y Al cl Ai ci, e = .returned (.agg (itC y Al cl Ai ci)) ∧ ItAt w' w'.heap.size y Al cl Ai ci ∧ Short y ∧ Below w.heap.size w w'
/-- .. and where its lists lie. -/
def CutPost2 (w : World) (B : Nat) (e : Ending) (w' : World) : Prop := ∃ y Al cl Ai ci, e = .returned (.agg (itC y Al cl Ai ci)) ∧ ItAt w' w'.heap.size y Al cl Ai ci ∧ Short y ∧ Below w.heap.size w w' ∧ Row str w' (fun k => w.heap.size ≤ k ∧ k < w'.heap.size) Al y.l ∧ Row (num .i64) w' (fun k => k < B) Ai y.i
theorem ItAt.up {w : World} {B B' : Nat} {x : ItM} {Al Ai : Option Addr} {cl ci : Nat} (h : ItAt w B x Al cl Ai ci) (hB : B ≤ B') : ItAt w B' x Al cl Ai ci :=
  ⟨h.ok, h.lc, h.ic, h.l.mono fun _ hk => Nat.lt_of_lt_of_le hk hB, h.i.mono fun _ hk => Nat.lt_of_lt_of_le hk hB⟩
theorem heap_set_neq (w : World) (r off : Nat) (u : Value) (k : Nat) (h : k ≠ r) : (w.setCell ⟨r, off, none⟩ u).heap[k]? = w.heap[k]? := Below.heap_setCell w ⟨r, off, none⟩ u k h
theorem cell_at {W : World} {r : Nat} {cs : Array Value} {t : TypeId} {fz : Nat × Nat} (h : W.heap[r]? = some (.cells cs t fz)) (k : Nat) : W.cell? ⟨r, k, none⟩ = cs[k]? := by simp [World.cell?, h]
theorem frozen_at {W : World} {r : Nat} {cs : Array Value} {t : TypeId} (h : W.heap[r]? = some (.cells cs t (0, 0))) (k : Nat) : W.frozen? ⟨r, k, none⟩ = false := by simp [World.frozen?, h]
theorem put8 (W : World) (r : Nat) (a0 a1 a2 a3 a4 a5 a6 a7 x0 x1 x2 x3 x4 x5 x6 x7 : Value) (t : TypeId) (h : W.heap[r]? = some (.cells #[a0, a1, a2, a3, a4, a5, a6, a7] t (0, 0))) :
    W.cell? ⟨r, 0, none⟩ = some a0 ∧
    W.frozen? ⟨r, 0, none⟩ = false ∧
    (W.setCell ⟨r, 0, none⟩ x0).cell? ⟨r, 1, none⟩ = some a1 ∧
    (W.setCell ⟨r, 0, none⟩ x0).frozen? ⟨r, 1, none⟩ = false ∧
    ((W.setCell ⟨r, 0, none⟩ x0).setCell ⟨r, 1, none⟩ x1).cell? ⟨r, 2, none⟩ = some a2 ∧
    ((W.setCell ⟨r, 0, none⟩ x0).setCell ⟨r, 1, none⟩ x1).frozen? ⟨r, 2, none⟩ = false ∧
    (((W.setCell ⟨r, 0, none⟩ x0).setCell ⟨r, 1, none⟩ x1).setCell ⟨r, 2, none⟩ x2).cell? ⟨r, 3, none⟩ = some a3 ∧
    (((W.setCell ⟨r, 0, none⟩ x0).setCell ⟨r, 1, none⟩ x1).setCell ⟨r, 2, none⟩ x2).frozen? ⟨r, 3, none⟩ = false ∧
    ((((W.setCell ⟨r, 0, none⟩ x0).setCell ⟨r, 1, none⟩ x1).setCell ⟨r, 2, none⟩ x2).setCell ⟨r, 3, none⟩ x3).cell? ⟨r, 4, none⟩ = some a4 ∧
    ((((W.setCell ⟨r, 0, none⟩ x0).setCell ⟨r, 1, none⟩ x1).setCell ⟨r, 2, none⟩ x2).setCell ⟨r, 3, none⟩ x3).frozen? ⟨r, 4, none⟩ = false ∧
    (((((W.setCell ⟨r, 0, none⟩ x0).setCell ⟨r, 1, none⟩ x1).setCell ⟨r, 2, none⟩ x2).setCell ⟨r, 3, none⟩ x3).setCell ⟨r, 4, none⟩ x4).cell? ⟨r, 5, none⟩ = some a5 ∧
    (((((W.setCell ⟨r, 0, none⟩ x0).setCell ⟨r, 1, none⟩ x1).setCell ⟨r, 2, none⟩ x2).setCell ⟨r, 3, none⟩ x3).setCell ⟨r, 4, none⟩ x4).frozen? ⟨r, 5, none⟩ = false ∧
    ((((((W.setCell ⟨r, 0, none⟩ x0).setCell ⟨r, 1, none⟩ x1).setCell ⟨r, 2, none⟩ x2).setCell ⟨r, 3, none⟩ x3).setCell ⟨r, 4, none⟩ x4).setCell ⟨r, 5, none⟩ x5).cell? ⟨r, 6, none⟩ = some a6 ∧
    ((((((W.setCell ⟨r, 0, none⟩ x0).setCell ⟨r, 1, none⟩ x1).setCell ⟨r, 2, none⟩ x2).setCell ⟨r, 3, none⟩ x3).setCell ⟨r, 4, none⟩ x4).setCell ⟨r, 5, none⟩ x5).frozen? ⟨r, 6, none⟩ = false ∧
    (((((((W.setCell ⟨r, 0, none⟩ x0).setCell ⟨r, 1, none⟩ x1).setCell ⟨r, 2, none⟩ x2).setCell ⟨r, 3, none⟩ x3).setCell ⟨r, 4, none⟩ x4).setCell ⟨r, 5, none⟩ x5).setCell ⟨r, 6, none⟩ x6).cell? ⟨r, 7, none⟩ = some a7 ∧
    (((((((W.setCell ⟨r, 0, none⟩ x0).setCell ⟨r, 1, none⟩ x1).setCell ⟨r, 2, none⟩ x2).setCell ⟨r, 3, none⟩ x3).setCell ⟨r, 4, none⟩ x4).setCell ⟨r, 5, none⟩ x5).setCell ⟨r, 6, none⟩ x6).frozen? ⟨r, 7, none⟩ = false ∧ ((((((((W.setCell ⟨r, 0, none⟩ x0).setCell ⟨r, 1, none⟩ x1).setCell ⟨r, 2, none⟩ x2).setCell ⟨r, 3, none⟩ x3).setCell ⟨r, 4, none⟩ x4).setCell ⟨r, 5, none⟩ x5).setCell ⟨r, 6, none⟩ x6).setCell ⟨r, 7, none⟩ x7).heap[r]? = some (.cells #[x0, x1, x2, x3, x4, x5, x6, x7] t (0, 0)) ∧ (∀ k, k ≠ r → ((((((((W.setCell ⟨r, 0, none⟩ x0).setCell ⟨r, 1, none⟩ x1).setCell ⟨r, 2, none⟩ x2).setCell ⟨r, 3, none⟩ x3).setCell ⟨r, 4, none⟩ x4).setCell ⟨r, 5, none⟩ x5).setCell ⟨r, 6, none⟩ x6).setCell ⟨r, 7, none⟩ x7).heap[k]? = W.heap[k]?) ∧ ((((((((W.setCell ⟨r, 0, none⟩ x0).setCell ⟨r, 1, none⟩ x1).setCell ⟨r, 2, none⟩ x2).setCell ⟨r, 3, none⟩ x3).setCell ⟨r, 4, none⟩ x4).setCell ⟨r, 5, none⟩ x5).setCell ⟨r, 6, none⟩ x6).setCell ⟨r, 7, none⟩ x7).heap.size = W.heap.size ∧ ∀ B w0, Below B w0 W → B ≤ r → Below B w0 ((((((((W.setCell ⟨r, 0, none⟩ x0).setCell ⟨r, 1, none⟩ x1).setCell ⟨r, 2, none⟩ x2).setCell ⟨r, 3, none⟩ x3).setCell ⟨r, 4, none⟩ x4).setCell ⟨r, 5, none⟩ x5).setCell ⟨r, 6, none⟩ x6).setCell ⟨r, 7, none⟩ x7) := by
  have h0 : (W.setCell ⟨r, 0, none⟩ x0).heap[r]? = some (.cells #[x0, a1, a2, a3, a4, a5, a6, a7] t (0, 0)) := heap_set_eq2 W r 0 _ t (0, 0) x0 h
  have h1 : ((W.setCell ⟨r, 0, none⟩ x0).setCell ⟨r, 1, none⟩ x1).heap[r]? = some (.cells #[x0, x1, a2, a3, a4, a5, a6, a7] t (0, 0)) := heap_set_eq2 (W.setCell ⟨r, 0, none⟩ x0) r 1 _ t (0, 0) x1 h0
  have h2 : (((W.setCell ⟨r, 0, none⟩ x0).setCell ⟨r, 1, none⟩ x1).setCell ⟨r, 2, none⟩ x2).heap[r]? = some (.cells #[x0, x1, x2, a3, a4, a5, a6, a7] t (0, 0)) := heap_set_eq2 ((W.setCell ⟨r, 0, none⟩ x0).setCell ⟨r, 1, none⟩ x1) r 2 _ t (0, 0) x2 h1
  have h3 : ((((W.setCell ⟨r, 0, none⟩ x0).setCell ⟨r, 1, none⟩ x1).setCell ⟨r, 2, none⟩ x2).setCell ⟨r, 3, none⟩ x3).heap[r]? = some (.cells #[x0, x1, x2, x3, a4, a5, a6, a7] t (0, 0)) := heap_set_eq2 (((W.setCell ⟨r, 0, none⟩ x0).setCell ⟨r, 1, none⟩ x1).setCell ⟨r, 2, none⟩ x2) r 3 _ t (0, 0) x3 h2
  have h4 : (((((W.setCell ⟨r, 0, none⟩ x0).setCell ⟨r, 1, none⟩ x1).setCell ⟨r, 2, none⟩ x2).setCell ⟨r, 3, none⟩ x3).setCell ⟨r, 4, none⟩ x4).heap[r]? = some (.cells #[x0, x1, x2, x3, x4, a5, a6, a7] t (0, 0)) := heap_set_eq2 ((((W.setCell ⟨r, 0, none⟩ x0).setCell ⟨r, 1, none⟩ x1).setCell ⟨r, 2, none⟩ x2).setCell ⟨r, 3, none⟩ x3) r 4 _ t (0, 0) x4 h3
  have h5 : ((((((W.setCell ⟨r, 0, none⟩ x0).setCell ⟨r, 1, none⟩ x1).setCell ⟨r, 2, none⟩ x2).setCell ⟨r, 3, none⟩ x3).setCell ⟨r, 4, none⟩ x4).setCell ⟨r, 5, none⟩ x5).heap[r]? = some (.cells #[x0, x1, x2, x3, x4, x5, a6, a7] t (0, 0)) := heap_set_eq2 (((((W.setCell ⟨r, 0, none⟩ x0).setCell ⟨r, 1, none⟩ x1).setCell ⟨r, 2, none⟩ x2).setCell ⟨r, 3, none⟩ x3).setCell ⟨r, 4, none⟩ x4) r 5 _ t (0, 0) x5 h4
  have h6 : (((((((W.setCell ⟨r, 0, none⟩ x0).setCell ⟨r, 1, none⟩ x1).setCell ⟨r, 2, none⟩ x2).setCell ⟨r, 3, none⟩ x3).setCell ⟨r, 4, none⟩ x4).setCell ⟨r, 5, none⟩ x5).setCell ⟨r, 6, none⟩ x6).heap[r]? = some (.cells #[x0, x1, x2, x3, x4, x5, x6, a7] t (0, 0)) := heap_set_eq2 ((((((W.setCell ⟨r, 0, none⟩ x0).setCell ⟨r, 1, none⟩ x1).setCell ⟨r, 2, none⟩ x2).setCell ⟨r, 3, none⟩ x3).setCell ⟨r, 4, none⟩ x4).setCell ⟨r, 5, none⟩ x5) r 6 _ t (0, 0) x6 h5
  have h7 : ((((((((W.setCell ⟨r, 0, none⟩ x0).setCell ⟨r, 1, none⟩ x1).setCell ⟨r, 2, none⟩ x2).setCell ⟨r, 3, none⟩ x3).setCell ⟨r, 4, none⟩ x4).setCell ⟨r, 5, none⟩ x5).setCell ⟨r, 6, none⟩ x6).setCell ⟨r, 7, none⟩ x7).heap[r]? = some (.cells #[x0, x1, x2, x3, x4, x5, x6, x7] t (0, 0)) := heap_set_eq2 (((((((W.setCell ⟨r, 0, none⟩ x0).setCell ⟨r, 1, none⟩ x1).setCell ⟨r, 2, none⟩ x2).setCell ⟨r, 3, none⟩ x3).setCell ⟨r, 4, none⟩ x4).setCell ⟨r, 5, none⟩ x5).setCell ⟨r, 6, none⟩ x6) r 7 _ t (0, 0) x7 h6
  exact ⟨(cell_at h 0).trans rfl, frozen_at h 0, (cell_at h0 1).trans rfl, frozen_at h0 1, (cell_at h1 2).trans rfl, frozen_at h1 2, (cell_at h2 3).trans rfl, frozen_at h2 3, (cell_at h3 4).trans rfl, frozen_at h3 4, (cell_at h4 5).trans rfl, frozen_at h4 5, (cell_at h5 6).trans rfl, frozen_at h5 6, (cell_at h6 7).trans rfl, frozen_at h6 7, h7, fun k hk => by rw [heap_set_neq _ _ _ _ _ hk, heap_set_neq _ _ _ _ _ hk, heap_set_neq _ _ _ _ _ hk, heap_set_neq _ _ _ _ _ hk, heap_set_neq _ _ _ _ _ hk, heap_set_neq _ _ _ _ _ hk, heap_set_neq _ _ _ _ _ hk, heap_set_neq _ _ _ _ _ hk], by simp [World.setCell], fun B w0 hb hr => ((((((((hb.setCell (p := ⟨r, 0, none⟩) hr x0).setCell (p := ⟨r, 1, none⟩) hr x1).setCell (p := ⟨r, 2, none⟩) hr x2).setCell (p := ⟨r, 3, none⟩) hr x3).setCell (p := ⟨r, 4, none⟩) hr x4).setCell (p := ⟨r, 5, none⟩) hr x5).setCell (p := ⟨r, 6, none⟩) hr x6).setCell (p := ⟨r, 7, none⟩) hr x7)⟩
theorem results_cell1 {P : Program} {fn : Func} {t : Tmp} {ty : TypeId} (h : fn.results = #[.cell t ty]) (tmps : Array Value) (w : World) (x : Value) (ad : Addr) (hp : tmps.getD t undef = .pointer (some ad)) (hl : (loadVar ty ad).run P w = .ok x w) :
    (results fn tmps).run P w = .ok x w := by
  rw [Array.getD_eq_getD_getElem?] at hp
  simp [results, h, hp, asAddr, hl]
end Go.Proofs.Ytaomhedjamnloaa
