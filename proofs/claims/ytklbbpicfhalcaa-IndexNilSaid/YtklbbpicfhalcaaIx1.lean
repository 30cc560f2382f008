/- An index in memory; contracts: index.New, Len, Gap, may. -/
import Derived.Test.YtklbbpicfhalcaaProg
import Derived.Test.YtklbbpicfhalcaaBase3
import Derived.Test.YtklbbpicfhalcaaRegion2
import Derived.Outline
import Derived.WideLaws
import Derived.Deep.DeepMust
import Derived.DataElems
set_option linter.unusedVariables false
set_option linter.unusedSimpArgs false
namespace Go.Proofs.Ytklbbpicfhalcaa
open Go Go.RowKit

def i64 (x : Int) : Prop := -9223372036854775808 ≤ x ∧ x ≤ 9223372036854775807
/-- Three whole numbers in line. -/
def ent : Kd (Int × Int × Int) where
  sz := 3
  K := fun _ _ x cs => cs = [.int .i64 x.1, .int .i64 x.2.1, .int .i64 x.2.2]
  pos := by decide
  len := by rintro w F x cs rfl; rfl
  one := by
    rintro w F x cs rfl u hu
    simp only [List.mem_cons, List.not_mem_nil, or_false] at hu
    rcases hu with rfl | rfl | rfl <;> rfl
  mono := by rintro w F G x cs rfl _; rfl
  bound := by rintro w F x cs rfl; rfl
  move := by rintro w w' F x cs rfl _; rfl
theorem flat_ent : Flat ent := fun _ _ _ _ _ _ h => h
theorem Row.ent_at {w : World} {F : Nat → Prop} {A : Option Addr} {xs : List (Int × Int × Int)} (h : Row ent w F A xs) (k : Nat) (hk : k < xs.length) :
    ∃ ad, A = some ad ∧ w.cell? (ad.add (k * 3)) = some (.int .i64 xs[k].1) ∧ w.cell? ⟨(ad.add (k * 3)).block, (ad.add (k * 3)).off + 1, Option.none⟩ = some (.int .i64 xs[k].2.1) ∧ w.cell? ⟨(ad.add (k * 3)).block, (ad.add (k * 3)).off + 2, Option.none⟩ = some (.int .i64 xs[k].2.2) := by
  obtain ⟨ad, c, e, hf, hl, hK, hc⟩ := h.get k hk
  have hK : c = [.int .i64 xs[k].1, .int .i64 xs[k].2.1, .int .i64 xs[k].2.2] := hK
  subst hK
  refine ⟨ad, e, hc 0 _ rfl, ?_, ?_⟩
  · have := hc 1 _ rfl
    rw [show ent.sz = 3 from rfl, ← Addr.add_add] at this
    exact this
  · have := hc 2 _ rfl
    rw [show ent.sz = 3 from rfl, ← Addr.add_add] at this
    exact this

/-- An index, plain. -/
structure IxM where
  offset : Int
  place : Int
  late : Int
  gap : Int
  l : List (Int × Int × Int)
def newM (gap : Int) : IxM := ⟨-1, -1, -1, gap, []⟩
/-- The entries' row: the index's own; or cut short, with no room behind. -/
def Lst (w : World) (B g : Nat) (v : Value) (l : List (Int × Int × Int)) : Prop :=
  v.ownBlock ≠ some g ∧ (Own ent 28 w B (fun _ => False) v l ∨ ∃ A, v = .slice (some A) l.length l.length ∧ l.length ≤ maxLen ∧ B ≤ A.block ∧ A.block < w.heap.size ∧ Row ent w (fun k => k = A.block) (some A) l)
theorem Lst.sl {w : World} {B g : Nat} {v : Value} {l : List (Int × Int × Int)} (h : Lst w B g v l) : Sl ent w (fun k => some k = v.ownBlock) v l := by
  rcases h.2 with h | ⟨A, rfl, h1, h2, h3, h4⟩
  · exact h.sl.mono fun k hk => hk.elim False.elim Eq.symm
  · exact ⟨some A, _, rfl, Nat.le_refl _, h1, h4.mono fun k hk => congrArg some hk⟩
theorem Lst.at {w : World} {B g : Nat} {v : Value} {l : List (Int × Int × Int)} (h : Lst w B g v l) {k : Nat} (hk : v.ownBlock = some k) : B ≤ k ∧ k < w.heap.size := by
  rcases h.2 with h | ⟨A, rfl, h1, h2, h3, h4⟩
  · exact h.at hk
  · injection hk with hk
    subst hk
    exact ⟨h2, h3⟩
theorem Lst.move {w w' : World} {B g : Nat} {v : Value} {l : List (Int × Int × Int)} (h : Lst w B g v l) (hs : w.heap.size ≤ w'.heap.size) (hm : ∀ k, v.ownBlock = some k → w'.heap[k]? = w.heap[k]?) : Lst w' B g v l := by
  refine ⟨h.1, ?_⟩
  rcases h.2 with h | ⟨A, rfl, h1, h2, h3, h4⟩
  · exact .inl (h.move hm fun _ h => h.elim)
  · exact .inr ⟨A, rfl, h1, h2, by omega, h4.move fun k hk => hm k (by rw [hk]; rfl)⟩
/-- An index in memory, at block g. -/
def IxAt (w : World) (B g : Nat) (v : Value) (x : IxM) : Prop :=
  B ≤ g ∧ w.heap[g]? = some (.cells #[.int .i64 x.offset, .int .i64 x.place, .int .i64 x.late, .int .i64 x.gap, v] 67 (0, 0)) ∧ Lst w B g v x.l
theorem IxAt.lt {w : World} {B g : Nat} {v : Value} {x : IxM} (h : IxAt w B g v x) : g < w.heap.size := by
  obtain ⟨_, h, _⟩ := h
  exact (Array.getElem?_eq_some_iff.1 h).1
theorem IxAt.move {w w' : World} {B g : Nat} {v : Value} {x : IxM} (h : IxAt w B g v x) (hs : w.heap.size ≤ w'.heap.size) (hm : ∀ k, k = g ∨ v.ownBlock = some k → w'.heap[k]? = w.heap[k]?) : IxAt w' B g v x :=
  ⟨h.1, (hm g (.inl rfl)).trans h.2.1, h.2.2.move hs fun k hk => hm k (.inr hk)⟩
theorem IxAt.ext {w w' : World} {B g : Nat} {v : Value} {x : IxM} (h : IxAt w B g v x) (hE : Ext w w') : IxAt w' B g v x :=
  h.move hE.size fun k hk => hE.block k (by
    rcases hk with rfl | hk
    · exact h.lt
    · exact (h.2.2.at hk).2)
theorem IxAt.lower {w : World} {B B' g : Nat} {v : Value} {x : IxM} (h : IxAt w B g v x) (hB : B' ≤ B) : IxAt w B' g v x :=
  ⟨Nat.le_trans hB h.1, h.2.1, h.2.2.1, by
    rcases h.2.2.2 with h | ⟨A, e, h1, h2, h3, h4⟩
    · exact .inl (h.lower hB)
    · exact .inr ⟨A, e, h1, Nat.le_trans hB h2, h3, h4⟩⟩
/-- What its cells hold. -/
theorem IxAt.cells {w : World} {B g : Nat} {v : Value} {x : IxM} (h : IxAt w B g v x) :
    w.cell? ⟨g, 0, none⟩ = some (.int .i64 x.offset) ∧ w.cell? ⟨g, 1, none⟩ = some (.int .i64 x.place) ∧ w.cell? ⟨g, 2, none⟩ = some (.int .i64 x.late) ∧ w.cell? ⟨g, 3, none⟩ = some (.int .i64 x.gap) ∧ w.cell? ⟨g, 4, none⟩ = some v := by
  have := h.2.1
  simp [World.cell?, this]
theorem IxAt.frozen {w : World} {B g : Nat} {v : Value} {x : IxM} (h : IxAt w B g v x) (i : Nat) : w.frozen? ⟨g, i, none⟩ = false := by
  have := h.2.1
  simp [World.frozen?, this]

def NewPost (gap : Int) (w : World) (e : Ending) (w' : World) : Prop := (¬ (1 ≤ gap ∧ gap ≤ 4194304) ∧ e = .returned (.tuple #[.pointer none, .int .i64 2]) ∧ Ext w w') ∨
      (1 ≤ gap ∧ gap ≤ 4194304 ∧ ∃ g, e = .returned (.tuple #[.pointer (some ⟨g, 0, none⟩), .int .i64 0]) ∧ IxAt w' w.heap.size g (.slice none 0 0) (newM gap) ∧ Ext w w')
set_option maxHeartbeats 2000000 in
theorem New_calls (gap : Int) (w : World) (hg : i64 gap) : Calls Try.prog 10 #[.int .i64 gap] w (NewPost gap w) := by
  obtain ⟨h1, h2⟩ := hg
  by_cases hlo : gap < 1
  · go_enter Try.func10, Try.ntmps10
    go_wp2
    go_ret2
    exact .inl ⟨by omega, rfl, Ext.refl _⟩
  by_cases hhi : 4194304 < gap
  · go_enter Try.func10, Try.ntmps10
    go_wp2
    go_ret2
    exact .inl ⟨by omega, rfl, Ext.refl _⟩
  go_enter Try.func10, Try.ntmps10
  go_wp2
  go_ret2
  refine .inr ⟨by omega, by omega, _, rfl, ⟨Nat.le_refl _, heap_alloc_new _ _, ⟨by simp [Value.ownBlock], .inl (Own.nil _ _ _ _ _)⟩⟩, Ext.alloc _ _⟩
set_option maxHeartbeats 2000000 in
theorem Len_calls (w : World) (B g : Nat) (v : Value) (x : IxM) (h : IxAt w B g v x) :
    Calls Try.prog 14 #[.pointer (some ⟨g, 0, none⟩)] w fun e w' => e = .returned (.int .i64 x.l.length) ∧ w = w' := by
  obtain ⟨A, c, rfl, hc, hm, hr⟩ := h.2.2.sl
  obtain ⟨h0, h1, h2, h3, h4⟩ := h.cells
  go_enter Try.func14, Try.ntmps14
  go_wp2
  go_ret
  exact ⟨rfl, rfl⟩
set_option maxHeartbeats 2000000 in
theorem Gap_calls (w : World) (B g : Nat) (v : Value) (x : IxM) (h : IxAt w B g v x) :
    Calls Try.prog 13 #[.pointer (some ⟨g, 0, none⟩)] w fun e w' => e = .returned (.int .i64 x.gap) ∧ w = w' := by
  obtain ⟨h0, h1, h2, h3, h4⟩ := h.cells
  go_enter Try.func13, Try.ntmps13
  go_wp2
  go_ret
  exact ⟨rfl, rfl⟩
def mayM (o p t : Int) : Bool := decide (0 ≤ o) && decide (o ≤ 1099511627776) && decide (0 ≤ p) && decide (p ≤ 4194304) && decide (0 ≤ t) && decide (t ≤ 1099511627776)
set_option maxHeartbeats 2000000 in
theorem may_calls (w : World) (o p t : Int) :
    Calls Try.prog 34 #[.int .i64 o, .int .i64 p, .int .i64 t] w fun e w' => e = .returned (.bool (mayM o p t)) ∧ w = w' := by
  unfold mayM
  go_enter Try.func34, Try.ntmps34
  by_cases h1 : 0 ≤ o <;> by_cases h2 : o ≤ 1099511627776 <;> by_cases h3 : 0 ≤ p <;> by_cases h4 : p ≤ 4194304 <;> by_cases h5 : 0 ≤ t <;> by_cases h6 : t ≤ 1099511627776 <;> (go_wp2; go_ret; exact ⟨by simp [h1, h2, h3, h4, h5, h6], rfl⟩)
theorem results_cell2 {P : Program} {fn : Func} {t u : Tmp} {ty : TypeId} (h : fn.results = #[.cell t ty, .tmp u]) (tmps : Array Value) (w : World) (x : Value) (ad : Addr) (hp : tmps.getD t undef = .pointer (some ad)) (hl : (loadVar ty ad).run P w = .ok x w) :
    (results fn tmps).run P w = .ok (.tuple #[x, tmps.getD u undef]) w := by
  rw [Array.getD_eq_getD_getElem?] at hp
  simp [results, h, hp, asAddr, hl]
theorem load_ent (r : Nat) (x y z : Value) (w : World) (h : w.heap[r]? = some (.cells #[x, y, z] 28 (0, 0))) : (loadVar 28 ⟨r, 0, none⟩).run Try.prog w = .ok (.agg #[x, y, z]) w := by
  have h0 : w.cell? ⟨r, 0, none⟩ = some x := by simp [World.cell?, h]
  have h1 : w.cell? ⟨r, 1, none⟩ = some y := by simp [World.cell?, h]
  have h2 : w.cell? ⟨r, 2, none⟩ = some z := by simp [World.cell?, h]
  go_simp
end Go.Proofs.Ytklbbpicfhalcaa
