/- Bytes: the element's size, draws, bytes.Clone. -/
import Derived.Test.YtaomhedjamnloaaProg
import Derived.Test.YtaomhedjamnloaaBase
import Derived.Laws.BitsLemmas
import Derived.Outline
import Derived.WideLaws
import Derived.WalkSpells
import Derived.BigQuiet
import Derived.Deep.QuietTactic
import Derived.Deep.RegionWith
import Derived.Lib.AppendStr
set_option linter.unusedVariables false
set_option linter.unusedSimpArgs false
namespace Go.Proofs.Ytaomhedjamnloaa
open Go Go.RowKit

theorem info_u8 : (Try.prog.info? 5).map (fun i => (i.zero.map (fun z => z.cells.size), i.size, i.bytes)) = some (some kb.sz, kb.sz, 1) := by kernel_rfl
theorem size_u8 : (Try.prog.info? 5).map (·.size) = some 1 := by kernel_rfl
theorem u8s_reps (l : List UInt8) (w : World) (F : Nat → Prop) : Reps (kb.K w F) kb.sz l (u8s l) := (Reps.scalar.2 rfl).imp fun _ _ hc => ⟨hc, trivial⟩
theorem ret_int {k : IntKind} {a b : Int} (h : a = b) : Ending.returned (.int k a) = .returned (.int k b) := by rw [h]
/-- Heap unturned, some orders having been drawn. -/
def Drawn (w w' : World) : Prop := ∃ n, w' = w.drewN n
theorem Drawn.refl (w : World) : Drawn w w := ⟨0, rfl⟩
theorem Drawn.step {w w' : World} (h : Drawn w w') (n : Nat) : Drawn w (w'.drewN n) := by
  obtain ⟨m, rfl⟩ := h
  exact ⟨m + n, World.drewN_drewN ..⟩
theorem Drawn.trans {a b c : World} (h : Drawn a b) (k : Drawn b c) : Drawn a c := by
  obtain ⟨n, rfl⟩ := k
  exact h.step n
theorem Drawn.below {w w' : World} (h : Drawn w w') : Below w.heap.size w w' := by
  obtain ⟨n, rfl⟩ := h
  induction n with
  | zero => exact Below.refl _ _
  | succ n ih => rw [← World.drew_drewN]; exact ih.drew

theorem wrapsu32 (n : Int) (h₀ : 0 ≤ n) (h₁ : n < 2 ^ 32) : IntKind.u32.wrap n = n := by rw [IntKind.wrap_u32]; omega
theorem add_at (ad : Addr) (k : Nat) (h : k ≠ 0) : ad.add k = ⟨ad.block, ad.off + k, none⟩ := by unfold Addr.add; rw [if_neg h]

set_option maxHeartbeats 1000000 in
theorem Clone_calls (A : Option Addr) (c : Nat) (l : List UInt8) (F : Nat → Prop) (w : World) (hl : l.length ≤ 70368744177664) (hc : l.length ≤ c) (hm : c ≤ maxLen) (hr : Row kb w F A l) :
    Calls Try.prog 102 #[.slice A l.length c] w fun e w' => ∃ v, e = .returned v ∧ Own kb 5 w' w.heap.size (fun _ => False) v l ∧ Below w.heap.size w w' := by
  cases A with
  | none =>
    obtain rfl : l = [] := by
      cases l with
      | nil => rfl
      | cons x l => obtain ⟨_, h, _⟩ := hr.u8_at 0 (by simp); cases h
    have hm' := hm
    unfold maxLen at hm'
    have he := fun w => Lib.run_eql_slice_nil (P := Try.prog) w 31 5 none 0 c 0 0 Try.underlying31
    go_enter Try.func102, Try.ntmps102
    go_wp2
    go_ret
    exact ⟨_, rfl, Own.nil _ _ _ _ _, Below.refl _ _⟩
  | some ad =>
    have he := fun w => Lib.run_eql_slice_nil (P := Try.prog) w 31 5 (some ad) l.length c 0 0 Try.underlying31
    have h0 := Own.lit (d := kb) (e := 5) w (Nat.le_refl _) (F := fun _ => False) [] [] 0 rfl (by decide) rfl
    have h1 : Sl kb (w.alloc (.cells #[] 5)) F (.slice (some ad) l.length c) l := (show Sl kb w F _ l from ⟨_, c, rfl, hc, hm, hr⟩).alloc _
    go_enter Try.func102, Try.ntmps102
    go_wp2_with (at_builtin; refine app_flat kb flat_kb w.heap.size rfl (.tmp 5) (.tmp 6) 31 5 1 rfl Try.underlying31 info_u8 _ _ [] l _ _ rfl rfl h0 h1 (by simp; omega) (by simp [maxLen]; omega) (by simp) ?_; intro v1 w1 ho hg ha)
    go_ret
    exact ⟨_, rfl, ho, ((Below.refl _ _).alloc (Nat.le_refl _) _).grown hg (by simp) (by intro k hk; cases hk; exact Nat.le_refl _)⟩
theorem boxed1 {w : World} {b : Nat} {u : Value} {e : TypeId} (h : w.heap[b]? = some (.cells #[u] e (0, 0))) : ∀ j u', [u][j]? = some u' → w.cell? ((⟨b, 0, none⟩ : Addr).add j) = some u' := by
  intro j u' hj
  match j, hj with
  | 0, hj =>
    simp at hj
    subst hj
    show w.cell? ⟨b, 0, none⟩ = _
    simp [World.cell?, h]
theorem kb_one (w : World) (F : Nat → Prop) (n : Nat) (h : n < 256) : kb.K w F (UInt8.ofNat n) [.int .u8 (n : Int)] := by
  refine ⟨?_, trivial⟩
  show [Value.int .u8 (n : Int)] = [Value.int .u8 ((UInt8.ofNat n).toNat : Int)]
  rw [show (UInt8.ofNat n).toNat = n by simp; omega]
theorem Own.u8_to {e : TypeId} {w : World} {B : Nat} {F : Nat → Prop} {xs : List UInt8} {v : Value} (h : Own kb e w B F v xs) : w.ownsRow B e 1 v xs.length (u8s xs) := by
  obtain ⟨cs, ho, hr⟩ := h
  have : cs = u8s xs := Reps.scalar.1 (hr.imp fun _ _ hc => hc.1)
  rw [← this]
  exact ho
/-- append(x, s...) of a string. -/
theorem app_str {ops : Array Oper} {rest : List Oper} {o : Oper} {a : Act} {Q : Exit → Act → World → Prop} {P : Program} {w : World} (B : Nat) (hgd : o.guard = none) (sl x : Operand) (t u e : TypeId)
    (ho : o.op = .call { callee := .builtin .append, args := #[sl, x], argTypes := #[t, u] }) (ht : P.underlying t = some (.slice e)) (hu : P.underlying u = some .string)
    (hi : (P.info? e).map (fun i => (i.zero, i.size, i.bytes)) = some (some (.int .u8 0), 1, 1)) (v : Value) (xs : List UInt8) (F : Nat → Prop) (s : ByteArray) (hs : a.eval sl = v) (hx : a.eval x = .string s) (hown : Own kb e w B F v xs)
    (hl : xs.length + s.size ≤ 140737488355328) (hB : B ≤ w.heap.size)
    (h : ∀ v1 w1, Own kb e w1 B (fun _ => False) v1 (xs ++ s.data.toList) → w.grownBy w1 v.ownBlock → wpList P ops Q rest (a.put o.dst v1) w1) : wpList P ops Q (o :: rest) a w := by
  obtain ⟨i, hi1, hi2⟩ := Option.map_eq_some_iff.1 hi
  simp only [Prod.mk.injEq] at hi2
  refine Lib.wpList_append_own_string (w := w) hgd sl x t u ho B e i ht hu hi1 hi2.1 hi2.2.1 hi2.2.2 v xs.length (u8s xs) hs hown.u8_to s hx (by unfold maxLen; omega) hl hB ?_
  intro v1 w1 h1 h2 _
  refine h v1 w1 (Own.u8_of ?_) h2
  have e1 : (xs ++ s.data.toList).length = xs.length + s.size := by
    rw [List.length_append, Array.length_toList]
    rfl
  have e2 : u8s (xs ++ s.data.toList) = u8s xs ++ Lib.strCells s := by simp [u8s, Lib.strCells]
  rw [e1, e2]
  exact h1
theorem info_u8z : (Try.prog.info? 5).map (fun i => (i.zero, i.size, i.bytes)) = some (some (.int .u8 0), 1, 1) := by kernel_rfl
end Go.Proofs.Ytaomhedjamnloaa
