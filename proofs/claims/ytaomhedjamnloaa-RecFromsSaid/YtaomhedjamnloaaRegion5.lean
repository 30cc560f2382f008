/- A drawn region that writes two cells of one block of five. -/
import Derived.Test.YtaomhedjamnloaaRegion3
set_option linter.unusedVariables false
set_option linter.unusedSimpArgs false
namespace Go.Proofs.Ytaomhedjamnloaa
open Go Go.RowKit

theorem none_in {l : List Oper} {ns : List Nat} {j : Nat} {o' : Oper} (h : (l.zipIdx.all fun (o, i) => o.dst.isSome || ns.contains i) = true) (hj : l[j]? = some o') (hd : o'.dst = none) : j ∈ ns := by
  have := List.all_eq_true.1 h (o', j) (by rw [List.mem_zipIdx_iff_getElem?]; exact hj)
  simp only [hd, Option.isSome_none, Bool.false_or, List.contains_iff_mem] at this
  exact this
/-- Block r alone has changed: its first two cells, and to a, b only. -/
structure Two (r : Nat) (a b : Value) (w w' : World) : Prop where
  os : w'.os = w.os
  tape : w'.tape = w.tape
  output : w'.output = w.output
  size : w.heap.size ≤ w'.heap.size
  block : ∀ k, k < w.heap.size → k ≠ r → w'.heap[k]? = w.heap[k]?
  two : ∀ x y p q s t, w.heap[r]? = some (.cells #[x, y, p, q, s] t (0, 0)) → ∃ x' y', w'.heap[r]? = some (.cells #[x', y', p, q, s] t (0, 0)) ∧ (x' = x ∨ x' = a) ∧ (y' = y ∨ y' = b)
theorem Two.refl (r : Nat) (a b : Value) (w : World) : Two r a b w w := ⟨rfl, rfl, rfl, Nat.le_refl _, fun _ _ _ => rfl, fun x y _ _ _ _ h => ⟨x, y, h, .inl rfl, .inl rfl⟩⟩
theorem Two.trans (r : Nat) (a b : Value) (u v w : World) (h : Two r a b u v) (k : Two r a b v w) : Two r a b u w :=
  ⟨k.os.trans h.os, k.tape.trans h.tape, k.output.trans h.output, Nat.le_trans h.size k.size, fun i hi hr => (k.block i (Nat.lt_of_lt_of_le hi h.size) hr).trans (h.block i hi hr), fun x y p q s t hx => by
    obtain ⟨x1, y1, h1, h2, h3⟩ := h.two x y p q s t hx
    obtain ⟨x2, y2, k1, k2, k3⟩ := k.two x1 y1 p q s t h1
    refine ⟨x2, y2, k1, ?_, ?_⟩
    · rcases k2 with rfl | k2
      · exact h2
      · exact .inr k2
    · rcases k3 with rfl | k3
      · exact h3
      · exact .inr k3⟩
theorem Two.drew (r : Nat) (a b : Value) (w : World) : Two r a b w { w with drawn := w.drawn + 1 } := ⟨rfl, rfl, rfl, Nat.le_refl _, fun _ _ _ => rfl, fun x y _ _ _ _ h => ⟨x, y, h, .inl rfl, .inl rfl⟩⟩
/-- The first cell has been written. -/
def SP.fst (r : Nat) (a b : Value) : SP (Two r a b) := SP.mem (fun w => ∃ y p q s t, w.heap[r]? = some (.cells #[a, y, p, q, s] t (0, 0))) fun _ _ ⟨y, p, q, s, t, hq⟩ h => by
  obtain ⟨x1, y1, h1, h2, h3⟩ := h.two _ _ _ _ _ _ hq
  rcases h2 with rfl | rfl <;> exact ⟨_, _, _, _, _, h1⟩
def SP.snd (r : Nat) (a b : Value) : SP (Two r a b) := SP.mem (fun w => ∃ x p q s t, w.heap[r]? = some (.cells #[x, b, p, q, s] t (0, 0))) fun _ _ ⟨y, p, q, s, t, hq⟩ h => by
  obtain ⟨x1, y1, h1, h2, h3⟩ := h.two _ _ _ _ _ _ hq
  rcases h3 with rfl | rfl <;> exact ⟨_, _, _, _, _, h1⟩
theorem Two.put0 {r : Nat} {a b x y p q s : Value} {t : TypeId} {W : World} (h : W.heap[r]? = some (.cells #[x, y, p, q, s] t (0, 0))) :
    W.cell? ⟨r, 0, none⟩ = some x ∧ W.frozen? ⟨r, 0, none⟩ = false ∧ Two r a b W (W.setCell ⟨r, 0, none⟩ a) ∧ (W.setCell ⟨r, 0, none⟩ a).heap[r]? = some (.cells #[a, y, p, q, s] t (0, 0)) := by
  have h1 := heap_set_eq W r 0 _ t (0, 0) a h
  have hb := (Below.refl 0 W).setCell (p := ⟨r, 0, none⟩) (Nat.zero_le _) a
  refine ⟨by simp [World.cell?, h], by simp [World.frozen?, h], ⟨hb.os, hb.tape, hb.output, hb.size, fun k _ hk => Below.heap_setCell W ⟨r, 0, none⟩ a k hk, fun x' y' p' q' s' t' h' => ?_⟩, h1⟩
  rw [h] at h'
  injection h' with h'
  injection h' with e1 e2
  injection e1 with e1
  simp only [List.cons.injEq, and_true] at e1
  obtain ⟨rfl, rfl, rfl, rfl, rfl⟩ := e1
  subst e2
  exact ⟨a, y, h1, .inr rfl, .inl rfl⟩
theorem Two.put1 {r : Nat} {a b x y p q s : Value} {t : TypeId} {W : World} (h : W.heap[r]? = some (.cells #[x, y, p, q, s] t (0, 0))) :
    W.cell? ⟨r, 1, none⟩ = some y ∧ W.frozen? ⟨r, 1, none⟩ = false ∧ Two r a b W (W.setCell ⟨r, 1, none⟩ b) ∧ (W.setCell ⟨r, 1, none⟩ b).heap[r]? = some (.cells #[x, b, p, q, s] t (0, 0)) := by
  have h1 := heap_set_eq W r 1 _ t (0, 0) b h
  have hb := (Below.refl 0 W).setCell (p := ⟨r, 1, none⟩) (Nat.zero_le _) b
  refine ⟨by simp [World.cell?, h], by simp [World.frozen?, h], ⟨hb.os, hb.tape, hb.output, hb.size, fun k _ hk => Below.heap_setCell W ⟨r, 1, none⟩ b k hk, fun x' y' p' q' s' t' h' => ?_⟩, h1⟩
  rw [h] at h'
  injection h' with h'
  injection h' with e1 e2
  injection e1 with e1
  simp only [List.cons.injEq, and_true] at e1
  obtain ⟨rfl, rfl, rfl, rfl, rfl⟩ := e1
  subst e2
  exact ⟨x, b, h1, .inl rfl, .inr rfl⟩
end Go.Proofs.Ytaomhedjamnloaa
