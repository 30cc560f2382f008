/- The law's awake; IndexNews. -/
import Derived.Test.YtklbbpicfhalcaaIx3
set_option linter.unusedVariables false
set_option linter.unusedSimpArgs false
namespace Go.Proofs.Ytklbbpicfhalcaa
open Go Go.RowKit

theorem n1_eq : noteM (newM 100) 0 0 5 = (⟨0, 0, 5, 100, [(0, 0, -1)]⟩, 0) := by kernel_rfl
theorem n2_eq : noteM ⟨0, 0, 5, 100, [(0, 0, -1)]⟩ 7 60 9 = (⟨7, 60, 9, 100, [(0, 0, -1)]⟩, 0) := by kernel_rfl
theorem n3_eq : noteM ⟨7, 60, 9, 100, [(0, 0, -1)]⟩ 9 130 3 = (⟨9, 130, 9, 100, [(0, 0, -1), (9, 130, 9)]⟩, 0) := by kernel_rfl
theorem f8_eq : findM ⟨9, 130, 9, 100, [(0, 0, -1), (9, 130, 9)]⟩ 8 = ((0, 0, -1), true) := by kernel_rfl
theorem f10_eq : afterM ⟨9, 130, 9, 100, [(0, 0, -1), (9, 130, 9)]⟩ 10 = ((9, 130, 9), true) := by kernel_rfl
theorem rising_x : Rising [(0, 0, -1), (9, 130, 9)] := by
  intro i j hij hj
  simp only [List.length_cons, List.length_nil] at hj
  have : (i = 0 ∧ j = 0) ∨ (i = 0 ∧ j = 1) ∨ (i = 1 ∧ j = 1) := by omega
  rcases this with ⟨rfl, rfl⟩ | ⟨rfl, rfl⟩ | ⟨rfl, rfl⟩ <;> exact ⟨by decide, by decide⟩
/-- Note told apart: what it has changed lies in the call's own blocks. -/
theorem Note_ext {w0 w : World} {B g : Nat} {v : Value} {x x' : IxM} {o p t n : Int} {w' : World} {e : Ending} (hE : Ext w0 w) (hB : w0.heap.size ≤ B) (hx : IxAt w B g v x) (hn : noteM x o p t = (x', n)) (h : NotePost w B g v x o p t e w') :
    ∃ v', e = .returned (.int .i64 n) ∧ IxAt w' B g v' x' ∧ Ext w0 w' := by
  obtain ⟨v', he, h1, h2, h3⟩ := h
  rw [hn] at he h1
  exact ⟨v', he, h1, RowKit.Below.trans hE (h2.below (by have := hx.1; omega) (fun k hk => by have := (hx.2.2.at hk).1; omega) hE.size)⟩
set_option maxRecDepth 8000 in
set_option maxHeartbeats 4000000 in
theorem awake_calls (w : World) :
    Calls Try.prog 11 #[] w fun e w' => e = .returned (.bool true) ∧ Ext w w' := by
  go_enter Try.func11, Try.ntmps11
  go_wp2_with fail
  refine (New_calls 100 w (by unfold i64; omega)).mono ?_
  rintro e w1 (⟨h, _⟩ | ⟨_, _, g, rfl, hx, hE1⟩)
  · omega
  have Hn1 := Lib.hid (fun e w' => Note_ext (e := e) (w' := w') hE1 (Nat.le_refl _) hx n1_eq)
  go_wp2_with fail
  refine (Note_calls w1 _ g _ _ hx ⟨by decide, by decide, by intro e he; cases he⟩ hE1.size 0 0 5).mono ?_
  intro e w2 hp
  obtain ⟨v2, rfl, hx2, hE2⟩ := Hn1.out e w2 hp
  clear hp Hn1 hx
  have Hn1 := Lib.hid (fun e w' => Note_ext (e := e) (w' := w') hE2 (Nat.le_refl _) hx2 n2_eq)
  go_wp2_with fail
  refine (Note_calls w2 _ g _ _ hx2 ⟨by decide, by decide, by simp⟩ hE2.size 7 60 9).mono ?_
  intro e w3 hp
  obtain ⟨v3, rfl, hx3, hE3⟩ := Hn1.out e w3 hp
  clear hp Hn1 hx2
  have Hn1 := Lib.hid (fun e w' => Note_ext (e := e) (w' := w') hE3 (Nat.le_refl _) hx3 n3_eq)
  go_wp2_with fail
  refine (Note_calls w3 _ g _ _ hx3 ⟨by decide, by decide, by simp⟩ hE3.size 9 130 3).mono ?_
  intro e w4 hp
  obtain ⟨v4, rfl, hx4, hE4⟩ := Hn1.out e w4 hp
  clear hp Hn1 hx3
  have Hf := Lib.hid (Find_calls w4 _ g v4 _ hx4 8 (by decide) rising_x)
  rw [f8_eq] at Hf
  go_wp2_with fail
  refine Hf.out.mono ?_
  rintro e w5 ⟨rfl, hE5⟩
  simp only [entV]
  have hx5 := hx4.ext hE5
  have hE5 := Ext.trans _ _ _ hE4 hE5
  clear hx4 hE4 Hf
  obtain ⟨w6, hw6⟩ : ∃ w6, w5.alloc (.cells #[.int .i64 0, .int .i64 0, .int .i64 (-1)] 28) = w6 := ⟨_, rfl⟩
  have hE6 : Ext w5 w6 := by rw [← hw6]; exact Ext.alloc _ _
  have hp6 : w6.heap[w5.heap.size]? = some (.cells #[.int .i64 0, .int .i64 0, .int .i64 (-1)] 28 (0, 0)) := by rw [← hw6]; exact heap_alloc_new _ _
  have hx6 := hx5.ext hE6
  have Hf := Lib.hid (After_calls w6 _ g v4 _ hx6 10 (by decide) rising_x)
  rw [f10_eq] at Hf
  go_wp2_with fail
  refine Hf.out.mono ?_
  rintro e w7 ⟨rfl, hE7⟩
  simp only [entV]
  have hx7 := hx6.ext hE7
  have hE7' := Ext.trans _ _ _ hE5 (Ext.trans _ _ _ hE6 hE7)
  have hp7 : w7.heap[w5.heap.size]? = some (.cells #[.int .i64 0, .int .i64 0, .int .i64 (-1)] 28 (0, 0)) := by
    rw [hE7.block _ (Array.getElem?_eq_some_iff.1 hp6).1]; exact hp6
  obtain ⟨w8, hw8⟩ : ∃ w8, w7.alloc (.cells #[.int .i64 9, .int .i64 130, .int .i64 9] 28) = w8 := ⟨_, rfl⟩
  have hE8 : Ext w7 w8 := by rw [← hw8]; exact Ext.alloc _ _
  have hp8 : w8.heap[w7.heap.size]? = some (.cells #[.int .i64 9, .int .i64 130, .int .i64 9] 28 (0, 0)) := by rw [← hw8]; exact heap_alloc_new _ _
  have hp7 : w8.heap[w5.heap.size]? = some (.cells #[.int .i64 0, .int .i64 0, .int .i64 (-1)] 28 (0, 0)) := by
    rw [hE8.block _ (Array.getElem?_eq_some_iff.1 hp7).1]; exact hp7
  have hx8 := hx7.ext hE8
  have Hl := Lib.hid (Len_calls w8 _ g v4 _ hx8)
  go_wp2_with fail
  refine Hl.out.mono ?_
  rintro e w9 ⟨rfl, rfl⟩
  have q1 : w8.cell? ⟨w5.heap.size, 0, none⟩ = some (.int .i64 0) ∧ w8.cell? ⟨w5.heap.size, 1, none⟩ = some (.int .i64 0) ∧ w8.cell? ⟨w5.heap.size, 2, none⟩ = some (.int .i64 (-1)) := by simp [World.cell?, hp7]
  have q2 : w8.cell? ⟨w7.heap.size, 0, none⟩ = some (.int .i64 9) ∧ w8.cell? ⟨w7.heap.size, 1, none⟩ = some (.int .i64 130) ∧ w8.cell? ⟨w7.heap.size, 2, none⟩ = some (.int .i64 9) := by simp [World.cell?, hp8]
  obtain ⟨q11, q12, q13⟩ := q1
  obtain ⟨q21, q22, q23⟩ := q2
  have hEE := Ext.trans _ _ _ hE7' hE8
  clear hx8 Hl hp7 hp8 hx5 hx6 hx7 hE5 hE6 hE7 hE7' hE8 Hf hp6
  go_wp2
  go_ret
  exact ⟨rfl, hEE⟩
end Go.Proofs.Ytklbbpicfhalcaa
