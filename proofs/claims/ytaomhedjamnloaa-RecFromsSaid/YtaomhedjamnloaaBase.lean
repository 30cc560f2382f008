/- What a row of cells reads as: kinds of elements, rows that are read, rows of the call's own; append, make, slicing over them. Over any program. -/
import Derived.WalkKit
import Derived.Below
import Derived.OwnWalk
import Derived.Maps.AppendAt
import Derived.Deep.Draws
import Derived.Laws.MakeOwn
import Derived.Laws.OwnMore
import Derived.Lib.Hide
import Derived.Lib.ConvBytes
import Derived.KernelRfl
import Derived.Deep.Slices
import Derived.Deep.LoopGhost
set_option linter.unusedVariables false
set_option linter.unusedSimpArgs false
namespace Go.Proofs.Ytaomhedjamnloaa
open Go Go.RowKit

/-! ### Cells -/
/-- From the address on stand these cells, in a block that F lets. -/
def Cells (w : World) (F : Nat → Prop) (A : Option Addr) (cs : List Value) : Prop :=
  cs = [] ∨ ∃ ad, A = some ad ∧ F ad.block ∧ ∀ j u, cs[j]? = some u → w.cell? (ad.add j) = some u

theorem add_block (a : Addr) (n : Nat) : (a.add n).block = a.block := by unfold Addr.add; split <;> rfl

theorem Cells.mono {w : World} {F G : Nat → Prop} {A : Option Addr} {cs : List Value} (h : Cells w F A cs) (hF : ∀ k, F k → G k) : Cells w G A cs := by
  rcases h with h | ⟨ad, e, hf, hc⟩
  · exact .inl h
  · exact .inr ⟨ad, e, hF _ hf, hc⟩
theorem Cells.bound {w : World} {F : Nat → Prop} {A : Option Addr} {cs : List Value} (h : Cells w F A cs) : Cells w (fun k => F k ∧ k < w.heap.size) A cs := by
  rcases h with h | ⟨ad, e, hf, hc⟩
  · exact .inl h
  · cases cs with
    | nil => exact .inl rfl
    | cons u cs =>
      have := hc 0 u rfl
      have hb := World.block_lt_of_cell? w _ this
      rw [add_block] at hb
      exact .inr ⟨ad, e, ⟨hf, hb⟩, hc⟩
theorem Cells.move {w w' : World} {F : Nat → Prop} {A : Option Addr} {cs : List Value} (h : Cells w F A cs) (hm : ∀ k, F k → w'.heap[k]? = w.heap[k]?) : Cells w' F A cs := by
  rcases h with h | ⟨ad, e, hf, hc⟩
  · exact .inl h
  · refine .inr ⟨ad, e, hf, fun j u hj => ?_⟩
    rw [World.cell?_of_block (w := w) (by rw [add_block]; exact hm _ hf)]
    exact hc j u hj

/-! ### Kinds -/
structure Kd (α : Type) where
  sz : Nat
  K : World → (Nat → Prop) → α → List Value → Prop
  pos : 0 < sz
  len : ∀ {w F x cs}, K w F x cs → cs.length = sz
  one : ∀ {w F x cs}, K w F x cs → ∀ u ∈ cs, u.oneCell' = true
  mono : ∀ {w F G x cs}, K w F x cs → (∀ k, F k → G k) → K w G x cs
  bound : ∀ {w : World} {F x cs}, K w F x cs → K w (fun k => F k ∧ k < w.heap.size) x cs
  move : ∀ {w w' : World} {F x cs}, K w F x cs → (∀ k, F k → w'.heap[k]? = w.heap[k]?) → K w' F x cs

/-- The elements, one behind the other. -/
def Reps {α : Type} (R : α → List Value → Prop) (sz : Nat) : List α → List Value → Prop
  | [], cs => cs = []
  | x :: xs, cs => ∃ c r, cs = c ++ r ∧ c.length = sz ∧ R x c ∧ Reps R sz xs r

section
variable {α : Type} {R R' : α → List Value → Prop} {sz : Nat}
theorem Reps.length : ∀ {xs : List α} {cs : List Value}, Reps R sz xs cs → cs.length = xs.length * sz
  | [], cs, h => by rw [show cs = [] from h]; simp
  | x :: xs, cs, h => by
    obtain ⟨c, r, rfl, hc, _, hr⟩ := h
    rw [List.length_append, hc, hr.length, List.length_cons, Nat.add_mul, Nat.one_mul, Nat.add_comm]
theorem Reps.imp (hR : ∀ x c, R x c → R' x c) : ∀ {xs : List α} {cs : List Value}, Reps R sz xs cs → Reps R' sz xs cs
  | [], _, h => h
  | x :: xs, cs, h => by
    obtain ⟨c, r, rfl, hc, hx, hr⟩ := h
    exact ⟨c, r, rfl, hc, hR _ _ hx, hr.imp hR⟩
theorem Reps.append : ∀ {xs ys : List α} {cs ds : List Value}, Reps R sz xs cs → Reps R sz ys ds → Reps R sz (xs ++ ys) (cs ++ ds)
  | [], _, cs, _, h, k => by rw [show cs = [] from h]; exact k
  | x :: xs, _, cs, _, h, k => by
    obtain ⟨c, r, rfl, hc, hx, hr⟩ := h
    exact ⟨c, r ++ _, by rw [List.append_assoc], hc, hx, hr.append k⟩
theorem Reps.single {x : α} {c : List Value} (hc : c.length = sz) (hx : R x c) : Reps R sz [x] c := ⟨c, [], by simp, hc, hx, rfl⟩
/-- The element at a place: its cells. -/
theorem Reps.get : ∀ {xs : List α} {cs : List Value} (h : Reps R sz xs cs) (k : Nat) (hk : k < xs.length), ∃ c, c.length = sz ∧ R xs[k] c ∧ ∀ i u, c[i]? = some u → cs[k * sz + i]? = some u
  | [], _, _, k, hk => absurd hk (Nat.not_lt_zero _)
  | x :: xs, cs, h, k, hk => by
    obtain ⟨c, r, rfl, hc, hx, hr⟩ := h
    cases k with
    | zero =>
      refine ⟨c, hc, hx, fun i u hi => ?_⟩
      rw [Nat.zero_mul, Nat.zero_add, List.getElem?_append_left (by have := (List.getElem?_eq_some_iff.1 hi).1; exact this)]
      exact hi
    | succ k =>
      obtain ⟨c', hc', hx', hg⟩ := hr.get k (by simpa using hk)
      refine ⟨c', hc', hx', fun i u hi => ?_⟩
      rw [List.getElem?_append_right (by rw [hc, Nat.add_mul]; omega), hc, show (k + 1) * sz + i - sz = k * sz + i by rw [Nat.add_mul]; omega]
      exact hg i u hi
theorem Reps.take : ∀ {xs : List α} {cs : List Value} (h : Reps R sz xs cs) (n : Nat), Reps R sz (xs.take n) (cs.take (n * sz))
  | [], cs, h, n => by rw [show cs = [] from h]; simp [Reps]
  | x :: xs, cs, h, 0 => by simp [Reps]
  | x :: xs, cs, h, n + 1 => by
    obtain ⟨c, r, rfl, hc, hx, hr⟩ := h
    refine ⟨c, r.take (n * sz), ?_, hc, hx, hr.take n⟩
    rw [Nat.add_mul, Nat.one_mul, List.take_append, List.take_of_length_le (by omega), hc, Nat.add_sub_cancel]
theorem Reps.drop : ∀ {xs : List α} {cs : List Value} (h : Reps R sz xs cs) (n : Nat), Reps R sz (xs.drop n) (cs.drop (n * sz))
  | [], cs, h, n => by rw [show cs = [] from h]; simp [Reps]
  | x :: xs, cs, h, 0 => by simpa using h
  | x :: xs, cs, h, n + 1 => by
    obtain ⟨c, r, rfl, hc, hx, hr⟩ := h
    have e1 : (c ++ r).drop ((n + 1) * sz) = r.drop (n * sz) := by
      rw [show (n + 1) * sz = c.length + n * sz by rw [Nat.add_mul, hc]; omega, List.drop_length_add_append]
    rw [e1]
    exact hr.drop n
theorem Reps.scalar {enc : α → Value} : ∀ {xs : List α} {cs : List Value}, Reps (fun x c => c = [enc x]) 1 xs cs ↔ cs = xs.map enc
  | [], cs => Iff.rfl
  | x :: xs, cs => by
    constructor
    · rintro ⟨c, r, rfl, _, rfl, hr⟩
      rw [Reps.scalar.1 hr]; rfl
    · rintro rfl
      exact ⟨[enc x], xs.map enc, rfl, rfl, rfl, Reps.scalar.2 rfl⟩
/-- A store of one element. -/
theorem Reps.set : ∀ {xs : List α} {cs : List Value} (h : Reps R sz xs cs) (k : Nat) (hk : k < xs.length) {y : α} {d : List Value} (hd : d.length = sz) (hy : R y d), Reps R sz (xs.set k y) (cs.take (k * sz) ++ d ++ cs.drop (k * sz + sz))
  | [], _, _, k, hk, _, _, _, _ => absurd hk (Nat.not_lt_zero _)
  | x :: xs, cs, h, k, hk, y, d, hd, hy => by
    obtain ⟨c, r, rfl, hc, hx, hr⟩ := h
    cases k with
    | zero => exact ⟨d, r, by simp [← hc], hd, hy, hr⟩
    | succ k =>
      have := hr.set k (by simpa using hk) hd hy
      refine ⟨c, _, ?_, hc, hx, this⟩
      have e1 : (k + 1) * sz = c.length + k * sz := by rw [Nat.add_mul, hc]; omega
      have e2 : (k + 1) * sz + sz = c.length + (k * sz + sz) := by rw [Nat.add_mul, hc]; omega
      rw [e1, Nat.add_assoc c.length, List.take_length_add_append, List.drop_length_add_append]
      simp [List.append_assoc]
end

/-! ### Rows that are read -/
def Row {α : Type} (d : Kd α) (w : World) (F : Nat → Prop) (A : Option Addr) (xs : List α) : Prop := ∃ cs, Cells w F A cs ∧ Reps (d.K w F) d.sz xs cs
/-- A slice that reads as a list. -/
def Sl {α : Type} (d : Kd α) (w : World) (F : Nat → Prop) (v : Value) (xs : List α) : Prop := ∃ A c, v = .slice A xs.length c ∧ xs.length ≤ c ∧ c ≤ maxLen ∧ Row d w F A xs

section
variable {α : Type} {d : Kd α} {w w' : World} {F G : Nat → Prop} {A : Option Addr} {xs : List α} {v : Value}
theorem Row.mono (h : Row d w F A xs) (hF : ∀ k, F k → G k) : Row d w G A xs := by
  obtain ⟨cs, hc, hr⟩ := h
  exact ⟨cs, hc.mono hF, hr.imp fun _ _ k => d.mono k hF⟩
theorem Row.bound (h : Row d w F A xs) : Row d w (fun k => F k ∧ k < w.heap.size) A xs := by
  obtain ⟨cs, hc, hr⟩ := h
  exact ⟨cs, hc.bound, hr.imp fun _ _ k => d.bound k⟩
theorem Row.move (h : Row d w F A xs) (hm : ∀ k, F k → w'.heap[k]? = w.heap[k]?) : Row d w' F A xs := by
  obtain ⟨cs, hc, hr⟩ := h
  exact ⟨cs, hc.move hm, hr.imp fun _ _ k => d.move k hm⟩
/-- Any step that leaves the blocks of F that were there. -/
theorem Row.step (h : Row d w F A xs) (hm : ∀ k, F k → k < w.heap.size → w'.heap[k]? = w.heap[k]?) : Row d w' F A xs :=
  (h.bound.move (fun k hk => hm k hk.1 hk.2)).mono fun _ hk => hk.1
theorem Row.below (h : Row d w F A xs) (hb : Below w.heap.size w w') : Row d w' F A xs := h.step fun k _ hk => hb.block k hk
theorem Row.belowF {B : Nat} (h : Row d w F A xs) (hF : ∀ k, F k → k < B) (hb : Below B w w') : Row d w' F A xs := h.move fun k hk => hb.block k (hF k hk)
theorem Row.nil (d : Kd α) (w : World) (F : Nat → Prop) (A : Option Addr) : Row d w F A [] := ⟨[], .inl rfl, rfl⟩
theorem Row.get (h : Row d w F A xs) (k : Nat) (hk : k < xs.length) : ∃ ad c, A = some ad ∧ F ad.block ∧ c.length = d.sz ∧ d.K w F xs[k] c ∧ ∀ i u, c[i]? = some u → w.cell? (ad.add (k * d.sz + i)) = some u := by
  obtain ⟨cs, hc, hr⟩ := h
  obtain ⟨c, hl, hK, hg⟩ := hr.get k hk
  rcases hc with rfl | ⟨ad, e, hf, hcell⟩
  · have h1 := hr.length
    simp only [List.length_nil] at h1
    have : 0 < xs.length * d.sz := Nat.mul_pos (by omega) d.pos
    omega
  · exact ⟨ad, c, e, hf, hl, hK, fun i u hi => hcell _ _ (hg i u hi)⟩
theorem Row.take (h : Row d w F A xs) (n : Nat) : Row d w F A (xs.take n) := by
  obtain ⟨cs, hc, hr⟩ := h
  refine ⟨cs.take (n * d.sz), ?_, hr.take n⟩
  rcases hc with rfl | ⟨ad, e, hf, hcell⟩
  · exact .inl (by simp)
  · refine .inr ⟨ad, e, hf, fun j u hj => hcell j u ?_⟩
    rw [List.getElem?_take] at hj
    split at hj
    · exact hj
    · cases hj
theorem Row.drop {ad : Addr} (h : Row d w F (some ad) xs) (n : Nat) : Row d w F (some (ad.add (n * d.sz))) (xs.drop n) := by
  obtain ⟨cs, hc, hr⟩ := h
  refine ⟨cs.drop (n * d.sz), ?_, hr.drop n⟩
  rcases hc with rfl | ⟨ad', e, hf, hcell⟩
  · exact .inl (by simp)
  · cases e
    refine .inr ⟨_, rfl, by rw [add_block]; exact hf, fun j u hj => ?_⟩
    rw [List.getElem?_drop] at hj
    rw [Deep.add_add]
    exact hcell _ _ hj
theorem Row.drop_all {A' : Option Addr} (n : Nat) (hn : xs.length ≤ n) : Row d w F A' (xs.drop n) := by
  rw [List.drop_eq_nil_of_le hn]; exact Row.nil _ _ _ _
theorem Sl.mono (h : Sl d w F v xs) (hF : ∀ k, F k → G k) : Sl d w G v xs := by
  obtain ⟨A, c, e, h1, h2, hr⟩ := h
  exact ⟨A, c, e, h1, h2, hr.mono hF⟩
theorem Sl.bound (h : Sl d w F v xs) : Sl d w (fun k => F k ∧ k < w.heap.size) v xs := by
  obtain ⟨A, c, e, h1, h2, hr⟩ := h
  exact ⟨A, c, e, h1, h2, hr.bound⟩
theorem Sl.step (h : Sl d w F v xs) (hm : ∀ k, F k → k < w.heap.size → w'.heap[k]? = w.heap[k]?) : Sl d w' F v xs := by
  obtain ⟨A, c, e, h1, h2, hr⟩ := h
  exact ⟨A, c, e, h1, h2, hr.step hm⟩
theorem Sl.below (h : Sl d w F v xs) (hb : Below w.heap.size w w') : Sl d w' F v xs := h.step fun k _ hk => hb.block k hk
theorem Sl.nil (d : Kd α) (w : World) (F : Nat → Prop) : Sl d w F (.slice none 0 0) [] := ⟨none, 0, rfl, Nat.le_refl _, Nat.zero_le _, Row.nil _ _ _ _⟩
end

/-! ### Slicing -/
/-- Where a piece of a slice lies. -/
def cutA (A : Option Addr) (c lo size : Nat) : Option Addr := if c = lo then A else A.map (·.add (lo * size))
theorem Row.none {α : Type} {d : Kd α} {w : World} {F : Nat → Prop} {xs : List α} (h : Row d w F none xs) : xs = [] := by
  cases xs with
  | nil => rfl
  | cons x xs =>
    obtain ⟨ad, _, e, _⟩ := h.get 0 (by simp)
    cases e
theorem Row.cut {α : Type} {d : Kd α} {w : World} {F : Nat → Prop} {A : Option Addr} {xs : List α} (h : Row d w F A xs) (c lo hi size : Nat) (hs : d.sz = size) (hl : lo ≤ hi) (hn : hi ≤ xs.length) (hc : xs.length ≤ c) :
    Row d w F (cutA A c lo size) ((xs.take hi).drop lo) := by
  subst hs
  unfold cutA
  split
  · exact Row.drop_all _ (by rw [List.length_take]; omega)
  · cases A with
    | none => rw [h.none]; simpa using Row.nil _ _ _ _
    | some ad => exact (h.take hi).drop lo
theorem Row.cut_from {α : Type} {d : Kd α} {w : World} {F : Nat → Prop} {A : Option Addr} {xs : List α} (h : Row d w F A xs) (c lo size : Nat) (hs : d.sz = size) (hl : lo ≤ xs.length) (hc : xs.length ≤ c) :
    Row d w F (cutA A c lo size) (xs.drop lo) := by
  have := h.cut c lo xs.length size hs hl (Nat.le_refl _) hc
  rwa [List.take_length] at this
section
variable {P : Program}
theorem slice_mid (t e : TypeId) (size : Nat) (ht : P.underlying t = some (.slice e)) (hi : (P.info? e).map (·.size) = some size) (A : Option Addr) (n c : Nat) (lo hi' : Int) (h0 : 0 ≤ lo) (h1 : lo ≤ hi') (h2 : hi' ≤ c) (W : World) (k1 k2 : IntKind) :
    (Instr.slice t (.slice A n c) (some (.int k1 lo)) (some (.int k2 hi')) none).run P W = .ok (.slice (cutA A c lo.toNat size) (hi'.toNat - lo.toNat) (c - lo.toNat)) W := by
  obtain ⟨i, hi1, rfl⟩ := Option.map_eq_some_iff.1 hi
  have a1 : 0 ≤ hi' ∧ hi' ≤ (c : Int) := by omega
  have a2 : 0 ≤ lo ∧ lo ≤ ((hi'.toNat : Nat) : Int) := by omega
  have a3 : lo ≤ max hi' 0 := by omega
  simp [Instr.slice, Instr.sliceBounds, Instr.sliceBound, asIntOf, run_underlying ht, sizeOf, typeInfo, hi1, a1, a2, a3, h0, cutA, Result.andThen]
theorem slice_from (t e : TypeId) (size : Nat) (ht : P.underlying t = some (.slice e)) (hi : (P.info? e).map (·.size) = some size) (A : Option Addr) (n c : Nat) (lo : Int) (h0 : 0 ≤ lo) (h1 : lo ≤ n) (W : World) (k1 : IntKind) :
    (Instr.slice t (.slice A n c) (some (.int k1 lo)) none none).run P W = .ok (.slice (cutA A c lo.toNat size) (n - lo.toNat) (c - lo.toNat)) W := by
  obtain ⟨i, hi1, rfl⟩ := Option.map_eq_some_iff.1 hi
  have a2 : 0 ≤ lo ∧ lo ≤ (n : Int) := by omega
  simp [Instr.slice, Instr.sliceBounds, Instr.sliceBound, asIntOf, run_underlying ht, sizeOf, typeInfo, hi1, a2, cutA, Result.andThen]
theorem slice_to (t e : TypeId) (ht : P.underlying t = some (.slice e)) (hi : (P.info? e).isSome = true) (A : Option Addr) (n c : Nat) (hi' : Int) (h1 : 0 ≤ hi') (h2 : hi' ≤ c) (W : World) (k2 : IntKind) :
    (Instr.slice t (.slice A n c) none (some (.int k2 hi')) none).run P W = .ok (.slice A hi'.toNat c) W := by
  obtain ⟨i, hi1⟩ := Option.isSome_iff_exists.1 hi
  have a1 : 0 ≤ hi' ∧ hi' ≤ (c : Int) := by omega
  have hz : ∀ a : Addr, a.add 0 = a := fun a => rfl
  cases A <;> simp [Instr.slice, Instr.sliceBounds, Instr.sliceBound, asIntOf, run_underlying ht, sizeOf, typeInfo, hi1, a1, Result.andThen, hz]
end

/-! ### The kinds -/
/-- One cell that holds all there is. -/
def sc {α : Type} (enc : α → Value) (ok : α → Prop) (h1 : ∀ x, (enc x).oneCell' = true) : Kd α where
  sz := 1
  K := fun _ _ x cs => cs = [enc x] ∧ ok x
  pos := Nat.one_pos
  len := fun h => by rw [h.1]; rfl
  one := fun h u hu => by
    rw [h.1] at hu
    rw [List.mem_singleton.1 hu]
    exact h1 _
  mono := fun h _ => h
  bound := fun h => h
  move := fun h _ => h
def kb : Kd UInt8 := sc (fun b => .int .u8 (b.toNat : Int)) (fun _ => True) (fun _ => rfl)
def u8s (l : List UInt8) : List Value := l.map fun b => .int .u8 (b.toNat : Int)
/-- Whole numbers of a kind. -/
def num (k : IntKind) : Kd Int := sc (fun x => .int k x) (fun x => (Lit.int k x).wf = true) (fun _ => rfl)
def boo : Kd Bool := sc (fun x => .bool x) (fun _ => True) (fun _ => rfl)
def str : Kd ByteArray := sc (fun s => .string s) (fun s => s.size ≤ maxLen) (fun _ => rfl)
/-- A slice. -/
def slk {α : Type} (d : Kd α) : Kd (List α) where
  sz := 1
  K := fun w F xs cs => ∃ v, cs = [v] ∧ Sl d w F v xs
  pos := Nat.one_pos
  len := by rintro w F x cs ⟨v, rfl, _⟩; rfl
  one := by
    rintro w F x cs ⟨v, rfl, A, c, rfl, _⟩ u hu
    rw [List.mem_singleton.1 hu]
    rfl
  mono := by rintro w F G x cs ⟨v, rfl, h⟩ hF; exact ⟨v, rfl, h.mono hF⟩
  bound := by rintro w F x cs ⟨v, rfl, h⟩; exact ⟨v, rfl, h.bound⟩
  move := by
    rintro w w' F x cs ⟨v, rfl, A, c, e, h1, h2, hr⟩ hm
    exact ⟨v, rfl, A, c, e, h1, h2, hr.move hm⟩
/-- Two in line. -/
def pair {α β : Type} (a : Kd α) (b : Kd β) : Kd (α × β) where
  sz := a.sz + b.sz
  K := fun w F x cs => ∃ c0 c1, cs = c0 ++ c1 ∧ a.K w F x.1 c0 ∧ b.K w F x.2 c1
  pos := by have := a.pos; omega
  len := by rintro w F x cs ⟨c0, c1, rfl, h0, h1⟩; rw [List.length_append, a.len h0, b.len h1]
  one := by
    rintro w F x cs ⟨c0, c1, rfl, h0, h1⟩ u hu
    rcases List.mem_append.1 hu with hu | hu
    · exact a.one h0 u hu
    · exact b.one h1 u hu
  mono := by rintro w F G x cs ⟨c0, c1, rfl, h0, h1⟩ hF; exact ⟨c0, c1, rfl, a.mono h0 hF, b.mono h1 hF⟩
  bound := by rintro w F x cs ⟨c0, c1, rfl, h0, h1⟩; exact ⟨c0, c1, rfl, a.bound h0, b.bound h1⟩
  move := by rintro w w' F x cs ⟨c0, c1, rfl, h0, h1⟩ hm; exact ⟨c0, c1, rfl, a.move h0 hm, b.move h1 hm⟩
/-- Told otherwise. -/
def iso {α β : Type} (d : Kd α) (f : β → α) : Kd β where
  sz := d.sz
  K := fun w F x cs => d.K w F (f x) cs
  pos := d.pos
  len := fun h => d.len h
  one := fun h => d.one h
  mono := fun h hF => d.mono h hF
  bound := fun h => d.bound h
  move := fun h hm => d.move h hm

theorem Row.at1 {α : Type} {d : Kd α} {w : World} {F : Nat → Prop} {A : Option Addr} {xs : List α} (hd : d.sz = 1) (h : Row d w F A xs) (k : Nat) (hk : k < xs.length) :
    ∃ ad u, A = some ad ∧ F ad.block ∧ d.K w F xs[k] [u] ∧ w.cell? (ad.add k) = some u := by
  obtain ⟨ad, c, e, hf, hl, hK, hc⟩ := h.get k hk
  rw [hd] at hl hc
  match c, hl with
  | [u], _ => exact ⟨ad, u, e, hf, hK, by have := hc 0 u rfl; rwa [Nat.mul_one, Nat.add_zero] at this⟩
theorem Row.u8_at {w : World} {F : Nat → Prop} {A : Option Addr} {xs : List UInt8} (h : Row kb w F A xs) (k : Nat) (hk : k < xs.length) :
    ∃ ad, A = some ad ∧ w.cell? (ad.add k) = some (.int .u8 (xs[k].toNat : Int)) := by
  obtain ⟨ad, u, e, _, hK, hc⟩ := h.at1 rfl k hk
  have : [u] = [.int .u8 (xs[k].toNat : Int)] := hK.1
  exact ⟨ad, e, by rw [hc]; injection this with this; rw [this]⟩
theorem Row.sl_at {α : Type} {d : Kd α} {w : World} {F : Nat → Prop} {A : Option Addr} {xs : List (List α)} (h : Row (slk d) w F A xs) (k : Nat) (hk : k < xs.length) :
    ∃ ad A' c, A = some ad ∧ w.cell? (ad.add k) = some (.slice A' xs[k].length c) ∧ xs[k].length ≤ c ∧ c ≤ maxLen ∧ Row d w F A' xs[k] := by
  obtain ⟨ad, u, e, _, ⟨v, hv, A', c, rfl, h1, h2, hr⟩, hc⟩ := h.at1 rfl k hk
  injection hv with hv
  subst hv
  exact ⟨ad, A', c, e, hc, h1, h2, hr⟩

/-! ### Rows of the call's own -/
def Own {α : Type} (d : Kd α) (e : TypeId) (w : World) (B : Nat) (F : Nat → Prop) (v : Value) (xs : List α) : Prop := ∃ cs, w.ownsRow B e d.sz v xs.length cs ∧ Reps (d.K w F) d.sz xs cs
section
variable {α : Type} {d : Kd α} {e : TypeId} {w w' : World} {B B' : Nat} {F G : Nat → Prop} {xs : List α} {v : Value}
theorem Own.nil (d : Kd α) (e : TypeId) (w : World) (B : Nat) (F : Nat → Prop) : Own d e w B F (.slice none 0 0) [] := ⟨[], World.ownsRow_nil w B e d.sz, rfl⟩
theorem Own.mono (h : Own d e w B F v xs) (hF : ∀ k, F k → G k) : Own d e w B G v xs := by
  obtain ⟨cs, ho, hr⟩ := h
  exact ⟨cs, ho, hr.imp fun _ _ k => d.mono k hF⟩
theorem Own.lower (h : Own d e w B F v xs) (hB : B' ≤ B) : Own d e w B' F v xs := by
  obtain ⟨cs, ⟨h1, h2⟩, hr⟩ := h
  refine ⟨cs, ⟨h1, ?_⟩, hr⟩
  rcases h2 with h2 | ⟨g, cap, cur, hv, hg, rest⟩
  · exact .inl h2
  · exact .inr ⟨g, cap, cur, hv, Nat.le_trans hB hg, rest⟩
theorem Own.bound (h : Own d e w B F v xs) : Own d e w B (fun k => F k ∧ k < w.heap.size) v xs := by
  obtain ⟨cs, ho, hr⟩ := h
  exact ⟨cs, ho, hr.imp fun _ _ k => d.bound k⟩
/-- Where it lies. -/
theorem Own.at (h : Own d e w B F v xs) {k : Nat} (hk : v.ownBlock = some k) : B ≤ k ∧ k < w.heap.size := by
  obtain ⟨cs, ho, _⟩ := h
  exact ho.lt k hk
theorem Own.move (h : Own d e w B F v xs) (hv : ∀ k, v.ownBlock = some k → w'.heap[k]? = w.heap[k]?) (hm : ∀ k, F k → w'.heap[k]? = w.heap[k]?) : Own d e w' B F v xs := by
  obtain ⟨cs, ⟨h1, h2⟩, hr⟩ := h
  refine ⟨cs, ⟨h1, ?_⟩, hr.imp fun _ _ k => d.move k hm⟩
  rcases h2 with h2 | ⟨g, cap, cur, rfl, hg, hh, rest⟩
  · exact .inl h2
  · exact .inr ⟨g, cap, cur, rfl, hg, (hv g rfl).trans hh, rest⟩
theorem Own.step (h : Own d e w B F v xs) (hv : ∀ k, v.ownBlock = some k → w'.heap[k]? = w.heap[k]?) (hm : ∀ k, F k → k < w.heap.size → w'.heap[k]? = w.heap[k]?) : Own d e w' B F v xs :=
  (h.bound.move hv (fun k hk => hm k hk.1 hk.2)).mono fun _ hk => hk.1
/-- A step that leaves what was there. -/
theorem Own.below (h : Own d e w B F v xs) (hb : Below w.heap.size w w') : Own d e w' B F v xs := h.step (fun k hk => hb.block k (h.at hk).2) fun k _ hk => hb.block k hk
/-- Another row has been written. -/
theorem Own.grown (h : Own d e w B F v xs) {row : Option Nat} (hg : w.grownBy w' row) (hv : v.ownBlock = none ∨ v.ownBlock ≠ row) (hF : ∀ k, F k → some k ≠ row) : Own d e w' B F v xs :=
  h.step (fun k hk => hg.block k (h.at hk).2 (by rcases hv with hv | hv; (· rw [hv] at hk; cases hk); (· rw [← hk]; exact hv))) fun k hk hl => hg.block k hl (hF k hk)
theorem Own.sl (h : Own d e w B F v xs) : Sl d w (fun k => F k ∨ v.ownBlock = some k) v xs := by
  obtain ⟨cs, ⟨h1, h2⟩, hr⟩ := h
  rcases h2 with ⟨rfl, h0⟩ | ⟨g, cap, cur, rfl, hg, hh, hn, hm, hs, ht⟩
  · have : xs = [] := List.eq_nil_of_length_eq_zero h0
    subst this
    exact Sl.nil _ _ _
  · refine ⟨_, cap, rfl, hn, hm, cs, .inr ⟨_, rfl, .inr rfl, fun j u hj => ?_⟩, hr.imp fun _ _ k => d.mono k fun _ => .inl⟩
    have : cur[j]? = some u := by
      rw [← ht] at hj
      rw [List.getElem?_take] at hj
      split at hj
      · rw [Array.getElem?_toList] at hj; exact hj
      · cases hj
    have e : ((⟨g, 0, none⟩ : Addr).add j) = ⟨g, j, none⟩ := by unfold Addr.add; split <;> simp_all
    rw [e]
    simp [World.cell?, hh, this]
theorem Own.slice (h : Own d e w B F v xs) : ∃ A c, v = .slice A xs.length c ∧ xs.length ≤ c ∧ c ≤ maxLen := by
  obtain ⟨A, c, rfl, h1, h2, _⟩ := h.sl
  exact ⟨A, c, rfl, h1, h2⟩
theorem Own.le (h : Own d e w B F v xs) : xs.length ≤ maxLen := by
  obtain ⟨A, c, rfl, h1, h2⟩ := h.slice
  exact Nat.le_trans h1 h2
end
theorem Own.u8_of {e : TypeId} {w : World} {B : Nat} {F : Nat → Prop} {xs : List UInt8} {v : Value} (h : w.ownsRow B e 1 v xs.length (u8s xs)) : Own kb e w B F v xs :=
  ⟨u8s xs, h, (Reps.scalar.2 rfl).imp fun _ _ hc => ⟨hc, trivial⟩⟩

theorem Own.lit {α : Type} {d : Kd α} {e : TypeId} (w : World) {B : Nat} (hB : B ≤ w.heap.size) {F : Nat → Prop} (cs : List Value) (xs : List α) (n : Nat) (hn : xs.length = n) (hm : n ≤ maxLen) (hr : Reps (d.K (w.alloc (.cells cs.toArray e)) F) d.sz xs cs) :
    Own d e (w.alloc (.cells cs.toArray e)) B F (.slice (some ⟨w.heap.size, 0, none⟩) n n) xs := by
  subst hn
  have hl := hr.length
  refine ⟨cs, ⟨hl, .inr ⟨w.heap.size, xs.length, cs.toArray, rfl, hB, ?_, Nat.le_refl _, hm, by simpa using hl, ?_⟩⟩, hr⟩
  · exact heap_alloc_new w _
  · simp [← hl]
/-- The world has grown by blocks of the call's own, and nothing else. -/
theorem below_alloc1 {w0 w : World} {B : Nat} (h : Below B w0 w) (hB : B ≤ w.heap.size) (c : Array Value) (t : TypeId) : Below B w0 (w.alloc (.cells c t)) := h.alloc hB _
theorem Own.alloc {α : Type} {d : Kd α} {e : TypeId} {w : World} {B : Nat} {F : Nat → Prop} {xs : List α} {v : Value} (h : Own d e w B F v xs) (o : Obj) : Own d e (w.alloc o) B F v xs :=
  h.below ((Below.refl _ _).alloc (Nat.le_refl _) o)
theorem Row.alloc {α : Type} {d : Kd α} {w : World} {F : Nat → Prop} {A : Option Addr} {xs : List α} (h : Row d w F A xs) (o : Obj) : Row d (w.alloc o) F A xs :=
  h.below ((Below.refl _ _).alloc (Nat.le_refl _) o)
theorem Row.drew {α : Type} {d : Kd α} {w : World} {F : Nat → Prop} {A : Option Addr} {xs : List α} (h : Row d w F A xs) : Row d w.drew F A xs := h.move fun _ _ => rfl
theorem Row.drewN {α : Type} {d : Kd α} {w : World} {F : Nat → Prop} {A : Option Addr} {xs : List α} (h : Row d w F A xs) (n : Nat) : Row d (w.drewN n) F A xs := h.move fun _ _ => rfl
theorem Sl.alloc {α : Type} {d : Kd α} {w : World} {F : Nat → Prop} {v : Value} {xs : List α} (h : Sl d w F v xs) (o : Obj) : Sl d (w.alloc o) F v xs :=
  h.below ((Below.refl _ _).alloc (Nat.le_refl _) o)

theorem cell_new0 (w : World) (v : Value) (t : TypeId) : (w.alloc (.cells #[v] t)).cell? ⟨w.heap.size, 0, none⟩ = some v := by simp
theorem cell_new1 (w : World) (n : Nat) (v : Value) (t : TypeId) : ((w.drewN n).alloc (.cells #[v] t)).cell? ⟨w.heap.size, 0, none⟩ = some v := cell_new0 (w.drewN n) v t
theorem cell_new2 (w : World) (n : Nat) (v : Value) (t : TypeId) : ((w.alloc (.cells #[v] t)).drewN n).cell? ⟨w.heap.size, 0, none⟩ = some v := cell_new0 w v t
theorem cell_new3 (w : World) (v : Value) (t : TypeId) : ((w.drew).alloc (.cells #[v] t)).cell? ⟨w.heap.size, 0, none⟩ = some v := cell_new0 w.drew v t
theorem blw_alloc {w0 w : World} (h : Below w0.heap.size w0 w) (o : Obj) : Below w0.heap.size w0 (w.alloc o) := h.alloc h.size o
theorem blw_drew {B : Nat} {w0 w : World} (h : Below B w0 w) : Below B w0 w.drew := h.drew
theorem blw_drewN {B : Nat} {w0 w : World} (h : Below B w0 w) (n : Nat) : Below B w0 (w.drewN n) := ⟨h.os, h.tape, h.output, h.size, h.block⟩

/-! ### append -/
section
variable {P : Program} {ops : Array Oper} {rest : List Oper} {o : Oper} {a : Act} {Q : Exit → Act → World → Prop}
theorem gate_op {p : Op} (_ho : o.op = p) {w : World} (h : wpList P ops Q (o :: rest) a w) : wpList P ops Q (o :: rest) a w := h

/-- append(x, y...): x a row of the call's own, y any that is read. -/
theorem app_core {α : Type} (d : Kd α) {w : World} (B : Nat) (F : Nat → Prop) (hgd : o.guard = none) (s x : Operand) (t e by_ : Nat)
    (ho : o.op = .call { callee := .builtin .append, args := #[s, x], argTypes := #[t, t] })
    (ht : P.underlying t = some (.slice e)) (hi : (P.info? e).map (fun i => (i.zero.map (fun z => z.cells.size), i.size, i.bytes)) = some (some d.sz, d.sz, by_))
    (v vx : Value) (xs ys : List α) (hs : a.eval s = v) (hx : a.eval x = vx) (hown : Own d e w B F v xs) (A : Option Addr) (c : Nat) (ds : List Value) (hvx : vx = .slice A ys.length c) (hcells : Cells w (fun _ => True) A ds) (hds : Reps (d.K w F) d.sz ys ds)
    (hl : (xs.length + ys.length) * by_ ≤ 140737488355328) (hm : xs.length + ys.length ≤ maxLen) (hB : B ≤ w.heap.size) (hF : ∀ k, F k → k < w.heap.size → some k ≠ v.ownBlock)
    (h : ∀ v1 w1, Own d e w1 B F v1 (xs ++ ys) → w.grownBy w1 v.ownBlock → (v1.ownBlock = v.ownBlock ∨ v1.ownBlock = some w.heap.size) → wpList P ops Q rest (a.put o.dst v1) w1) :
    wpList P ops Q (o :: rest) a w := by
  obtain ⟨i, hi1, hi2⟩ := Option.map_eq_some_iff.1 hi
  simp only [Prod.mk.injEq] at hi2
  obtain ⟨hz, hsz, hby⟩ := hi2
  obtain ⟨z, hz1, hz2⟩ := Option.map_eq_some_iff.1 hz
  obtain ⟨cs, hrow, hreps⟩ := hown
  subst hvx
  rcases hcells with rfl | ⟨ad, rfl, hf, hcell⟩
  · -- nothing comes behind
    have hy0 : ys = [] := by
      have := hds.length
      rcases ys with _ | ⟨y, ys⟩
      · rfl
      · simp only [List.length_nil, List.length_cons] at this
        have : 0 < (ys.length + 1) * d.sz := Nat.mul_pos (Nat.succ_pos _) d.pos
        omega
    subst hy0
    cases A with
    | some ad =>
      refine wpList_append_own_at w hgd s x t ho B e i z d.sz by_ ht hi1 hz1 hsz hby hz2 d.pos v xs.length cs hs hrow ad 0 c [] hx (by simp) (fun j u hj => by simp at hj) (by simp) (by simpa using hm) (by simpa using hl) hB ?_
      intro v1 w1 h1 h2 _ h4
      refine h v1 w1 ⟨cs, by simpa using h1, ?_⟩ h2 h4
      rw [List.append_nil]
      exact (hreps.imp fun _ _ k => d.bound k).imp fun _ _ k => d.mono (d.move k fun k hk => h2.block k hk.2 (hF k hk.1 hk.2)) fun _ hk => hk.1
    | none =>
      have hrun : (Builtin.append_ #[t, t] o.type #[v, .slice none 0 c]).run P w = .ok v w := by
        obtain ⟨A', c', rfl, hle, _⟩ := Own.slice (d := d) (e := e) (B := B) (F := F) ⟨cs, hrow, hreps⟩
        cases A' <;> simp [Builtin.append_, run_underlying ht, sizeOf, typeInfo, hi1, Builtin.lenOf, Builtin.firstCells, loadCells, loadCellsFrom, hle, storeCells]
      refine wpList_plain hgd fun K hK => ?_
      unfold Oper.wp execOp
      simp only [ho, resolve, invoke, builtin, Sem.run_bind, Sem.run_pure, Result.andThen_ok, List.map_toArray, List.map_cons, List.map_nil, hs, hx, List.length_nil, hrun]
      exact hK _ _ (h v w ⟨cs, by simpa using hrow, by simpa using hreps⟩ ⟨rfl, rfl, rfl, Nat.le_refl _, fun _ _ _ => rfl⟩ (.inl rfl))
  · refine wpList_append_own_at w hgd s x t ho B e i z d.sz by_ ht hi1 hz1 hsz hby hz2 d.pos v xs.length cs hs hrow ad ys.length c ds hx (by rw [hds.length]) hcell ?_ hm hl hB ?_
    · intro u hu
      obtain ⟨j, hj, rfl⟩ := List.mem_iff_getElem.1 hu
      have hlen := hds.length
      have hjk : j / d.sz < ys.length := (Nat.div_lt_iff_lt_mul d.pos).2 (by rw [← hlen]; exact hj)
      obtain ⟨c', hc', hK, hg⟩ := hds.get _ hjk
      have hmod : j % d.sz < c'.length := by rw [hc']; exact Nat.mod_lt _ d.pos
      have := hg (j % d.sz) _ (List.getElem?_eq_getElem hmod)
      rw [show j / d.sz * d.sz + j % d.sz = j by rw [Nat.mul_comm]; exact Nat.div_add_mod _ _, List.getElem?_eq_getElem hj] at this
      injection this with this
      rw [this]
      exact d.one hK _ (List.getElem_mem _)
    · intro v1 w1 h1 h2 _ h4
      refine h v1 w1 ⟨cs ++ ds, by rw [List.length_append]; exact h1, ?_⟩ h2 h4
      exact Reps.append ((hreps.imp fun _ _ k => d.bound k).imp fun _ _ k => d.mono (d.move k fun k hk => h2.block k hk.2 (hF k hk.1 hk.2)) fun _ hk => hk.1)
        ((hds.imp fun _ _ k => d.bound k).imp fun _ _ k => d.mono (d.move k fun k hk => h2.block k hk.2 (hF k hk.1 hk.2)) fun _ hk => hk.1)

theorem app_own {α : Type} (d : Kd α) {w : World} (B : Nat) (F : Nat → Prop) (hgd : o.guard = none) (s x : Operand) (t e by_ : Nat)
    (ho : o.op = .call { callee := .builtin .append, args := #[s, x], argTypes := #[t, t] })
    (ht : P.underlying t = some (.slice e)) (hi : (P.info? e).map (fun i => (i.zero.map (fun z => z.cells.size), i.size, i.bytes)) = some (some d.sz, d.sz, by_))
    (v vx : Value) (xs ys : List α) (hs : a.eval s = v) (hx : a.eval x = vx) (hown : Own d e w B F v xs) (hy : Sl d w F vx ys)
    (hl : (xs.length + ys.length) * by_ ≤ 140737488355328) (hm : xs.length + ys.length ≤ maxLen) (hB : B ≤ w.heap.size) (hF : ∀ k, F k → k < w.heap.size → some k ≠ v.ownBlock)
    (h : ∀ v1 w1, Own d e w1 B F v1 (xs ++ ys) → w.grownBy w1 v.ownBlock → (v1.ownBlock = v.ownBlock ∨ v1.ownBlock = some w.heap.size) → wpList P ops Q rest (a.put o.dst v1) w1) :
    wpList P ops Q (o :: rest) a w := by
  obtain ⟨A, c, e1, _, _, ds, hc, hr⟩ := hy
  exact app_core d B F hgd s x t e by_ ho ht hi v vx xs ys hs hx hown A c ds e1 (hc.mono fun _ _ => trivial) hr hl hm hB hF h
/-- Kinds whose cells hold all there is. -/
def Flat {α : Type} (d : Kd α) : Prop := ∀ w F w' F' x cs, d.K w F x cs → d.K w' F' x cs
theorem flat_sc {α : Type} (enc : α → Value) (ok : α → Prop) (h1 : ∀ x, (enc x).oneCell' = true) : Flat (sc enc ok h1) := fun _ _ _ _ _ _ h => h
theorem flat_kb : Flat kb := flat_sc _ _ _
theorem Own.flat {α : Type} {d : Kd α} (hd : Flat d) {e : TypeId} {w : World} {B : Nat} {F G : Nat → Prop} {v : Value} {xs : List α} (h : Own d e w B F v xs) : Own d e w B G v xs := by
  obtain ⟨cs, ho, hr⟩ := h
  exact ⟨cs, ho, hr.imp fun _ _ k => hd _ _ _ _ _ _ k⟩
theorem app_flat {α : Type} (d : Kd α) (hd : Flat d) {w : World} (B : Nat) (hgd : o.guard = none) (s x : Operand) (t e by_ : Nat)
    (ho : o.op = .call { callee := .builtin .append, args := #[s, x], argTypes := #[t, t] })
    (ht : P.underlying t = some (.slice e)) (hi : (P.info? e).map (fun i => (i.zero.map (fun z => z.cells.size), i.size, i.bytes)) = some (some d.sz, d.sz, by_))
    (v vx : Value) (xs ys : List α) (F F' : Nat → Prop) (hs : a.eval s = v) (hx : a.eval x = vx) (hown : Own d e w B F v xs) (hy : Sl d w F' vx ys)
    (hl : (xs.length + ys.length) * by_ ≤ 140737488355328) (hm : xs.length + ys.length ≤ maxLen) (hB : B ≤ w.heap.size)
    (h : ∀ v1 w1, Own d e w1 B (fun _ => False) v1 (xs ++ ys) → w.grownBy w1 v.ownBlock → (v1.ownBlock = v.ownBlock ∨ v1.ownBlock = some w.heap.size) → wpList P ops Q rest (a.put o.dst v1) w1) :
    wpList P ops Q (o :: rest) a w := by
  obtain ⟨A, c, e1, _, _, ds, hc, hr⟩ := hy
  exact app_core d B (fun _ => False) hgd s x t e by_ ho ht hi v vx xs ys hs hx (hown.flat hd) A c ds e1 (hc.mono fun _ _ => trivial) (hr.imp fun _ _ k => hd _ _ _ _ _ _ k) hl hm hB (fun _ h => h.elim) h

/-- Blocks of the call's own that are not the row's. -/
def fr (B : Nat) (v : Value) (k : Nat) : Prop := B ≤ k ∧ some k ≠ v.ownBlock
/-- append(x, y) of one element of one cell that lies in a block of its own: what lies inside the elements lies in blocks from B on, not in the row. -/
theorem app_nest1 {α : Type} (d : Kd α) (hd1 : d.sz = 1) {w : World} (B : Nat) (hgd : o.guard = none) (s x : Operand) (t e by_ : Nat)
    (ho : o.op = .call { callee := .builtin .append, args := #[s, x], argTypes := #[t, t] })
    (ht : P.underlying t = some (.slice e)) (hi : (P.info? e).map (fun i => (i.zero.map (fun z => z.cells.size), i.size, i.bytes)) = some (some d.sz, d.sz, by_))
    (v : Value) (xs : List α) (y : α) (b : Nat) (u : Value) (hs : a.eval s = v) (hx : a.eval x = .slice (some ⟨b, 0, none⟩) 1 1) (hown : Own d e w B (fr B v) v xs)
    (hc : w.cell? ⟨b, 0, none⟩ = some u) (hK : d.K w (fr B v) y [u])
    (hl : (xs.length + 1) * by_ ≤ 140737488355328) (hm : xs.length + 1 ≤ maxLen) (hB : B ≤ w.heap.size)
    (h : ∀ v1 w1, Own d e w1 B (fr B v1) v1 (xs ++ [y]) → w.grownBy w1 v.ownBlock → (v1.ownBlock = v.ownBlock ∨ v1.ownBlock = some w.heap.size) → wpList P ops Q rest (a.put o.dst v1) w1) :
    wpList P ops Q (o :: rest) a w := by
  refine app_core d B (fun k => fr B v k ∧ k < w.heap.size) hgd s x t e by_ ho ht hi v _ xs [y] hs hx hown.bound (some ⟨b, 0, none⟩) 1 [u] rfl (.inr ⟨_, rfl, trivial, fun j u' hj => ?_⟩) (Reps.single (by rw [hd1]; rfl) (d.bound hK)) hl hm hB (fun k hk _ => hk.1.2) ?_
  · match j, hj with
    | 0, hj => simp at hj; subst hj; exact hc
  · intro v1 w1 h1 h2 h3
    refine h v1 w1 (h1.mono fun k hk => ⟨hk.1.1, ?_⟩) h2 h3
    rcases h3 with h3 | h3
    · rw [h3]; exact hk.1.2
    · rw [h3]; intro he; injection he with he; omega

/-- make([]T, 0, c) -/
theorem make_own {α : Type} (d : Kd α) {w : World} (hgd : o.guard = none) (t e by_ : Nat) (kl kc : IntKind) (l c : Operand) (n : Int)
    (ho : o.op = .makeSlice t l c) (hl0 : a.eval l = .int kl 0) (hc0 : a.eval c = .int kc n)
    (ht : P.underlying t = some (.slice e)) (hi : (P.info? e).map (fun i => (i.zero.map (fun z => z.cells.size), i.size, i.bytes)) = some (some d.sz, d.sz, by_))
    (h0 : 0 ≤ n) (hl : by_ * n.toNat ≤ 281474976710656) (hm : n.toNat ≤ maxLen)
    (h : ∀ v1 w1, Own d e w1 w.heap.size (fun _ => False) v1 [] → w.grownBy w1 none → v1.ownBlock = some w.heap.size → wpList P ops Q rest (a.put o.dst v1) w1) :
    wpList P ops Q (o :: rest) a w := by
  obtain ⟨i, hi1, hi2⟩ := Option.map_eq_some_iff.1 hi
  simp only [Prod.mk.injEq] at hi2
  obtain ⟨hz, hsz, hby⟩ := hi2
  obtain ⟨z, hz1, hz2⟩ := Option.map_eq_some_iff.1 hz
  obtain ⟨m, rfl⟩ := Int.eq_ofNat_of_zero_le h0
  rw [Int.toNat_natCast] at hl hm
  obtain ⟨w1, hr, h1, h2⟩ := run_make_own (P := P) w w.heap.size t e i z d.sz ht hi1 hz1 hsz kl kc m (by rw [hby]; exact hl) hm (Nat.le_refl _)
  refine wpList_plain hgd fun K hK => ?_
  unfold Oper.wp execOp
  simp only [ho, hl0, hc0, Sem.run_bind, Sem.run_pure, Result.andThen_ok, hr]
  exact hK _ _ (h _ w1 ⟨[], h1, rfl⟩ h2 rfl)
end
end Go.Proofs.Ytaomhedjamnloaa
