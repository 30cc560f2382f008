/- Contracts: frame.four, number, bytes.Clone. -/
import Derived.Test.YtkmjcjhnfpkakaaFrame1
import Derived.WalkSpells
import Derived.BigQuiet
import Derived.Deep.QuietTactic
import Derived.Deep.RegionWith
set_option linter.unusedVariables false
set_option linter.unusedSimpArgs false
namespace Go.Proofs.Ytkmjcjhnfpkakaa
open Go Go.RowKit

/-- A number in four bytes. -/
def le32 (n : Nat) : List UInt8 := [UInt8.ofNat n, UInt8.ofNat (n / 256), UInt8.ofNat (n / 65536), UInt8.ofNat (n / 16777216)]
theorem le32_length (n : Nat) : (le32 n).length = 4 := rfl
/-- The number in the first four bytes. -/
def num32 (l : List UInt8) : Nat := (l.getD 0 0).toNat + 256 * (l.getD 1 0).toNat + 65536 * (l.getD 2 0).toNat + 16777216 * (l.getD 3 0).toNat
theorem num32_lt (l : List UInt8) : num32 l < 4294967296 := by
  unfold num32
  have h0 := (l.getD 0 0).toNat_lt
  have h1 := (l.getD 1 0).toNat_lt
  have h2 := (l.getD 2 0).toNat_lt
  have h3 := (l.getD 3 0).toNat_lt
  omega

theorem info_u8 : (Try.prog.info? 5).map (fun i => (i.zero.map (fun z => z.cells.size), i.size, i.bytes)) = some (some kb.sz, kb.sz, 1) := by kernel_rfl
theorem size_u8 : (Try.prog.info? 5).map (·.size) = some 1 := by kernel_rfl
theorem u8s_reps (l : List UInt8) (w : World) (F : Nat → Prop) : Reps (kb.K w F) kb.sz l (u8s l) := (Reps.scalar.2 rfl).imp fun _ _ hc => ⟨hc, trivial⟩
theorem u8s_le32 (n : Nat) (h : n < 4294967296) : u8s (le32 n) = [.int .u8 ((n : Int) % 256), .int .u8 ((n : Int) / 256 % 256), .int .u8 ((n : Int) / 65536 % 256), .int .u8 ((n : Int) / 16777216)] := by
  simp [u8s, le32]
  omega

set_option maxHeartbeats 1000000 in
theorem four_calls (x : Int) (h0 : 0 ≤ x) (h1 : x < 4294967296) (w : World) :
    Calls Try.prog 24 #[.int .u32 x] w fun e w' => ∃ v, e = .returned v ∧ Own kb 5 w' w.heap.size (fun _ => False) v (le32 x.toNat) ∧ Below w.heap.size w w' := by
  obtain ⟨n, rfl⟩ := Int.eq_ofNat_of_zero_le h0
  have hl := Own.lit (d := kb) (e := 5) w (Nat.le_refl _) (F := fun _ => False) (u8s (le32 n)) (le32 n) 4 rfl (by decide) (u8s_reps _ _ _)
  rw [u8s_le32 n (by omega)] at hl
  have hl := Lib.hid hl
  go_enter Try.func24, Try.ntmps24
  go_wp2
  go_ret
  exact ⟨_, rfl, hl.out, (Below.refl _ _).alloc (Nat.le_refl _) _⟩

theorem ret_int {k : IntKind} {a b : Int} (h : a = b) : Ending.returned (.int k a) = .returned (.int k b) := by rw [h]
/-- Heap unturned, some orders having been drawn. -/
def Drawn (w w' : World) : Prop := ∃ n, w' = w.drewN n
theorem Drawn.refl (w : World) : Drawn w w := ⟨0, rfl⟩
theorem Drawn.step {w w' : World} (h : Drawn w w') (n : Nat) : Drawn w (w'.drewN n) := by
  obtain ⟨m, rfl⟩ := h
  exact ⟨m + n, World.drewN_drewN ..⟩
theorem Drawn.trans {a b c : World} (h : Drawn a b) (k : Drawn b c) : Drawn a c := by
  obtain ⟨n, rfl⟩ := k
  exact h.step n
theorem Drawn.below {w w' : World} (h : Drawn w w') : Below w.heap.size w w' := by
  obtain ⟨n, rfl⟩ := h
  induction n with
  | zero => exact Below.refl _ _
  | succ n ih => rw [← World.drew_drewN]; exact ih.drew

theorem wrapsu32 (n : Int) (h₀ : 0 ≤ n) (h₁ : n < 2 ^ 32) : IntKind.u32.wrap n = n := by rw [IntKind.wrap_u32]; omega
theorem or_up (i : Nat) (x y : Int) (hx₀ : 0 ≤ x) (hx : x % 2 ^ i = 0) (hx₁ : x < 2 ^ 32) (hy₀ : 0 ≤ y) (hy : y < 2 ^ i) (hy₁ : y < 2 ^ 32) : bits .or .u32 y x = y + x := by
  have := bits_join .u32 32 (by decide) wrapsu32 i x y hx₀ hx hx₁ hy₀ hy hy₁
  have hc : bits .or .u32 y x = bits .or .u32 x y := by unfold bits; simp only [BitVec.or_comm]
  rw [hc, this]; omega
theorem num_or (a b c d : Int) (ha : 0 ≤ a ∧ a < 256) (hb : 0 ≤ b ∧ b < 256) (hc : 0 ≤ c ∧ c < 256) (hd : 0 ≤ d ∧ d < 256) :
    bits .or .u32 (bits .or .u32 (bits .or .u32 a (b * 256)) (c * 65536)) (d * 16777216) = a + 256 * b + 65536 * c + 16777216 * d := by
  rw [or_up 8 (b * 256) a (by omega) (by omega) (by omega) (by omega) (by omega) (by omega)]
  rw [or_up 16 (c * 65536) (a + b * 256) (by omega) (by omega) (by omega) (by omega) (by omega) (by omega)]
  rw [or_up 24 (d * 16777216) _ (by omega) (by omega) (by omega) (by omega) (by omega) (by omega)]
  omega

theorem add_at (ad : Addr) (k : Nat) (h : k ≠ 0) : ad.add k = ⟨ad.block, ad.off + k, none⟩ := by unfold Addr.add; rw [if_neg h]

set_option maxHeartbeats 1000000 in
theorem number_calls (A : Option Addr) (c : Nat) (l : List UInt8) (F : Nat → Prop) (w : World) (h4 : 4 ≤ l.length) (hm : l.length ≤ maxLen) (hr : Row kb w F A l) :
    Calls Try.prog 26 #[.slice A l.length c] w fun e w' => e = .returned (.int .u32 (num32 l)) ∧ Drawn w w' := by
  unfold maxLen at hm
  have hns := u32_uns
  obtain ⟨ad, rfl, c0⟩ := hr.u8_at 0 (by omega)
  obtain ⟨_, e1, c1⟩ := hr.u8_at 1 (by omega)
  cases e1
  obtain ⟨_, e2, c2⟩ := hr.u8_at 2 (by omega)
  cases e2
  obtain ⟨_, e3, c3⟩ := hr.u8_at 3 (by omega)
  cases e3
  have hnum := Lib.hid (show num32 l = l[0].toNat + 256 * l[1].toNat + 65536 * l[2].toNat + 16777216 * l[3].toNat by simp [num32, List.getD, show 0 < l.length by omega, show 1 < l.length by omega, show 2 < l.length by omega, show 3 < l.length by omega])
  have b0 := l[0].toNat_lt
  have b1 := l[1].toNat_lt
  have b2 := l[2].toNat_lt
  have b3 := l[3].toNat_lt
  have hor := Lib.hid (num_or l[0].toNat l[1].toNat l[2].toNat l[3].toNat (by omega) (by omega) (by omega) (by omega))
  generalize l[0].toNat = x0 at *
  generalize l[1].toNat = x1 at *
  generalize l[2].toNat = x2 at *
  generalize l[3].toNat = x3 at *
  rw [show ad.add 0 = ad from rfl] at c0
  rw [add_at ad 1 (by omega)] at c1
  rw [add_at ad 2 (by omega)] at c2
  rw [add_at ad 3 (by omega)] at c3
  have q0 : (0 < l.length) = True := eq_true (by omega)
  have q1 : (1 < l.length) = True := eq_true (by omega)
  have q2 : (2 < l.length) = True := eq_true (by omega)
  have q3 : (3 < l.length) = True := eq_true (by omega)
  clear hr
  go_enter Try.func26, Try.ntmps26
  go_wp2
  go_quiet (fail)
  go_wp2
  go_ret
  exact ⟨ret_int (by rw [hnum.out, hor.out]; simp), (Drawn.refl _).step _⟩

set_option maxHeartbeats 1000000 in
theorem Clone_calls (A : Option Addr) (c : Nat) (l : List UInt8) (F : Nat → Prop) (w : World) (hl : l.length ≤ 70368744177664) (hc : l.length ≤ c) (hm : c ≤ maxLen) (hr : Row kb w F A l) :
    Calls Try.prog 27 #[.slice A l.length c] w fun e w' => ∃ v, e = .returned v ∧ Own kb 5 w' w.heap.size (fun _ => False) v l ∧ Below w.heap.size w w' := by
  cases A with
  | none =>
    obtain rfl : l = [] := by
      cases l with
      | nil => rfl
      | cons x l => obtain ⟨_, h, _⟩ := hr.u8_at 0 (by simp); cases h
    have hm' := hm
    unfold maxLen at hm'
    have he := fun w => Lib.run_eql_slice_nil (P := Try.prog) w 24 5 none 0 c 0 0 Try.underlying24
    go_enter Try.func27, Try.ntmps27
    go_wp2
    go_ret
    exact ⟨_, rfl, Own.nil _ _ _ _ _, Below.refl _ _⟩
  | some ad =>
    have he := fun w => Lib.run_eql_slice_nil (P := Try.prog) w 24 5 (some ad) l.length c 0 0 Try.underlying24
    have h0 := Own.lit (d := kb) (e := 5) w (Nat.le_refl _) (F := fun _ => False) [] [] 0 rfl (by decide) rfl
    have h1 : Sl kb (w.alloc (.cells #[] 5)) F (.slice (some ad) l.length c) l := (show Sl kb w F _ l from ⟨_, c, rfl, hc, hm, hr⟩).alloc _
    go_enter Try.func27, Try.ntmps27
    go_wp2_with (at_builtin; refine app_flat kb flat_kb w.heap.size rfl (.tmp 5) (.tmp 6) 24 5 1 rfl Try.underlying24 info_u8 _ _ [] l _ _ rfl rfl h0 h1 (by simp; omega) (by simp [maxLen]; omega) (by simp) ?_; intro v1 w1 ho hg ha)
    go_ret
    exact ⟨_, rfl, ho, ((Below.refl _ _).alloc (Nat.le_refl _) _).grown hg (by simp) (by intro k hk; cases hk; exact Nat.le_refl _)⟩
end Go.Proofs.Ytkmjcjhnfpkakaa
