/- Contracts: frame.Open, frame.Scan. -/
import Derived.Test.YtkmjcjhnfpkakaaFrame4
set_option linter.unusedVariables false
set_option linter.unusedSimpArgs false
namespace Go.Proofs.Ytkmjcjhnfpkakaa
open Go Go.RowKit

/-- Just one frame. -/
def openO (l : List UInt8) : Option (List UInt8) := match firstO l with
  | some b => if b.length + 8 = l.length then some b else none
  | none => none
def OpenPost (e8 : Nat) (w : World) (r : Option (List UInt8)) (e : Ending) (w' : World) : Prop :=
  ∃ v, e = .returned (.tuple #[v, .bool r.isSome]) ∧ Own kb e8 w' w.heap.size (fun _ => False) v (r.getD []) ∧ Below w.heap.size w w'

theorem firstO_le {l b : List UInt8} (h : firstO l = some b) : b.length + 8 ≤ l.length ∧ b.length = num32 l ∧ b.length ≤ 262144 := by
  unfold firstO at h
  split at h
  · rename_i hc
    injection h with h
    subst h
    rw [List.length_drop, List.length_take]
    omega
  · cases h

set_option maxHeartbeats 2000000 in
theorem Open_calls (A : Option Addr) (c : Nat) (l : List UInt8) (F : Nat → Prop) (w : World) (hl : l.length ≤ 1099511627776) (hc : l.length ≤ c) (hm : c ≤ maxLen) (hr : Row kb w F A l) :
    Calls Try.prog 17 #[.slice A l.length c] w (OpenPost 5 w (openO l)) := by
  have hm' := hm
  unfold maxLen at hm'
  have hno : ∀ w', Own kb 5 w' w.heap.size (fun _ => False) (.slice none 0 0) [] := fun _ => Own.nil _ _ _ _ _
  have Hno := Lib.hid hno
  clear hno
  go_enter Try.func17, Try.ntmps17
  go_wp2_with fail
  refine (First_calls A c l F w hl hc hm hr).mono ?_
  rintro e w1 ⟨v, rfl, hov, hb⟩
  cases hf : firstO l with
  | none =>
    have ho : openO l = none := by unfold openO; rw [hf]
    have Ho := Lib.hid ho
    rw [hf] at hov
    clear ho hf
    go_wp2
    go_ret2
    exact ⟨_, by rw [Ho.out]; rfl, by rw [Ho.out]; exact Hno.out _, hb⟩
  | some b =>
    have hle := firstO_le hf
    rw [hf] at hov
    by_cases hbl : b.length + 8 = l.length
    · have ho : openO l = some b := by unfold openO; rw [hf]; exact if_pos hbl
      have Ho := Lib.hid ho
      clear ho hf
      have hb1 : ((b.length : Int) + 8 != (l.length : Int)) = false := by simp; omega
      have hb2 : ((b.length : Int) + 8 == (l.length : Int)) = true := by simp; omega
      clear hbl
      simp only [Option.isSome]
      go_wp2
      go_ret2
      exact ⟨_, by rw [Ho.out]; rfl, by rw [Ho.out]; exact hov, hb⟩
    · have ho : openO l = none := by unfold openO; rw [hf]; exact if_neg hbl
      have Ho := Lib.hid ho
      clear ho hf
      have hb1 : ((b.length : Int) + 8 != (l.length : Int)) = true := by simp; omega
      have hb2 : ((b.length : Int) + 8 == (l.length : Int)) = false := by simp; omega
      clear hbl
      simp only [Option.isSome]
      go_wp2
      go_ret2
      exact ⟨_, by rw [Ho.out]; rfl, by rw [Ho.out]; exact Hno.out _, hb⟩
/-- Frames one behind the other: their bodies. -/
def scanN : Nat → List UInt8 → List (List UInt8)
  | 0, _ => []
  | n + 1, l => match firstO l with
    | none => []
    | some b => b :: scanN n (l.drop (b.length + 8))
def scanL (l : List UInt8) : List (List UInt8) := scanN l.length l
/-- How many bytes they take. -/
def total (xs : List (List UInt8)) : Nat := (xs.map fun b => b.length + 8).sum
theorem scanN_enough : ∀ (n m : Nat) (l : List UInt8), l.length ≤ n → l.length ≤ m → scanN n l = scanN m l
  | 0, 0, _, _, _ => rfl
  | 0, m + 1, l, h, _ => by
    have : l = [] := List.eq_nil_of_length_eq_zero (by omega)
    subst this
    simp [scanN, firstO]
  | n + 1, 0, l, _, h => by
    have : l = [] := List.eq_nil_of_length_eq_zero (by omega)
    subst this
    simp [scanN, firstO]
  | n + 1, m + 1, l, h, k => by
    simp only [scanN]
    cases hf : firstO l with
    | none => rfl
    | some b =>
      have := firstO_le hf
      simp only [List.cons.injEq, true_and]
      exact scanN_enough n m _ (by rw [List.length_drop]; omega) (by rw [List.length_drop]; omega)
theorem scanL_none {l : List UInt8} (h : firstO l = none) : scanL l = [] := by
  unfold scanL
  cases l.length <;> simp [scanN, h]
theorem scanL_some {l b : List UInt8} (h : firstO l = some b) : scanL l = b :: scanL (l.drop (b.length + 8)) := by
  have hle := firstO_le h
  unfold scanL
  rw [scanN_enough l.length (l.length - 1 + 1) l (Nat.le_refl _) (by omega)]
  simp only [scanN, h, List.cons.injEq, true_and]
  exact scanN_enough _ _ _ (by rw [List.length_drop]; omega) (Nat.le_refl _)
theorem total_snoc (xs : List (List UInt8)) (b : List UInt8) : total (xs ++ [b]) = total xs + (b.length + 8) := by simp [total]
theorem total_len (xs : List (List UInt8)) : xs.length * 8 ≤ total xs := by
  induction xs with
  | nil => simp
  | cons x xs ih => simp only [total, List.map_cons, List.sum_cons, List.length_cons] at *; omega

theorem info_bs : (Try.prog.info? 24).map (fun i => (i.zero.map (fun z => z.cells.size), i.size, i.bytes)) = some (some (slk kb).sz, (slk kb).sz, 24) := by kernel_rfl
def ScanPost (eb : Nat) (w : World) (l : List UInt8) (e : Ending) (w' : World) : Prop :=
  ∃ v, e = .returned (.tuple #[v, .int .i64 (total (scanL l))]) ∧ Own (slk kb) eb w' w.heap.size (fr w.heap.size v) v (scanL l) ∧ Below w.heap.size w w'

set_option maxHeartbeats 2000000 in
theorem Scan_calls (A : Option Addr) (c : Nat) (l : List UInt8) (w : World) (hl : l.length ≤ 1099511627776) (hc : l.length ≤ c) (hm : c ≤ maxLen) (hr : Row kb w (fun k => k < w.heap.size) A l) :
    Calls Try.prog 21 #[.slice A l.length c] w (ScanPost 24 w l) := by
  have hm' := hm
  unfold maxLen at hm'
  go_enter Try.func21, Try.ntmps21
  go_wp2
  go_loopw [4, 5] (fun v i w' => ∃ (p : Nat) (xs : List (List UInt8)), p ≤ l.length ∧ i = .int .i64 p ∧ Own (slk kb) 24 w' w.heap.size (fr w.heap.size v) v xs ∧ Below w.heap.size w w' ∧ Hid (p = total xs) ∧ Hid (xs ++ scanL (l.drop p) = scanL l)) (fun _ i _ => l.length - (intOf i).toNat)
  case atStart => exact ⟨0, [], Nat.zero_le _, rfl, Own.nil _ _ _ _ _, Below.refl _ _, Lib.hid rfl, Lib.hid rfl⟩
  case round =>
    obtain ⟨p, xs, hp, rfl, hov, hB, Hp, Hs⟩ := hrel
    have hcut := slice_from (P := Try.prog) 24 5 1 Try.underlying24 size_u8 A l.length c (p : Int) (by omega) (by omega)
    simp only [Int.toNat_natCast] at hcut
    have hrow := (hr.belowF (fun _ h => h) hB).cut_from c p 1 rfl hp hc
    have hdl : (l.drop p).length = l.length - p := List.length_drop
    have hcall := First_calls (cutA A c p 1) (c - p) (l.drop p) (fun k => k < w.heap.size) wr (by omega) (by omega) (by omega) hrow
    rw [hdl] at hcall
    have Hcall := Lib.hid hcall
    clear hcall
    go_wp2_with fail
    refine Hcall.out.mono ?_
    rintro e w1 ⟨vb, rfl, hob, hb1⟩
    have hov1 := hov.below hb1
    have hB1 := hB.trans (hb1.mono hB.size)
    cases hf : firstO (l.drop p) with
    | none =>
      have hs : scanL l = xs := by rw [← Hs.out, scanL_none hf, List.append_nil]
      have Hsl := Lib.hid hs
      clear hs hf
      go_wp2
      go_ret2
      exact ⟨u4, by rw [Hsl.out, Hp.out]; rfl, by rw [Hsl.out]; exact hov1, hB1⟩
    | some b =>
      rw [hf] at hob
      obtain ⟨hle, hx, hle3⟩ := firstO_le hf
      clear hx
      rw [List.length_drop] at hle
      have hdd : (l.drop p).drop (b.length + 8) = l.drop (p + (b.length + 8)) := by rw [List.drop_drop]
      have hs : (xs ++ [b]) ++ scanL (l.drop (p + (b.length + 8))) = scanL l := by rw [← Hs.out, scanL_some hf, hdd, List.append_assoc]; rfl
      have Hsl := Lib.hid hs
      have htl := total_len xs
      have Htl := Lib.hid (show (xs.length + 1) * 24 ≤ 140737488355328 by have := Hp.out; omega)
      have Hdl := Lib.hid hdl
      clear hs hf hdd hdl
      obtain ⟨Ab, cb, rfl, hcb, _⟩ := hob.slice
      simp only [Option.getD, Option.isSome] at hob ⊢
      have hslb : Sl kb w1 (fun k => (Value.slice Ab b.length cb).ownBlock = some k) (.slice Ab b.length cb) b := hob.sl.mono fun k hk => hk.resolve_left id
      go_wp2_with (at_builtin; go_must (refine app_nest1 (slk kb) rfl w.heap.size rfl (.tmp 21) (.tmp 23) 22 24 24 rfl Try.underlying22 info_bs u4 xs b w1.heap.size (.slice Ab b.length cb) rfl rfl (hov1.alloc _) (cell_new0 _ _ _) ⟨_, rfl, (hslb.alloc _).mono ?_⟩ Htl.out (by simp only [maxLen]; have := Htl.out; omega) (by have := hB1.size; simp; omega) ?_; (focus (intro k hk; have h1 := hob.at hk; have := hB.size; exact ⟨by omega, fun he => by have := hov.at he.symm; omega⟩)); intro v4 w4 ho4 hg ha4))
      go_roundw
      case rel => exact ⟨p + (b.length + 8), xs ++ [b], by omega, by go_num, ho4, (blw_alloc hB1 _).grown hg (by have := hB1.size; simp; omega) (fun k hk => (hov.at hk).1), Lib.hid (by rw [total_snoc, ← Hp.out]), Hsl⟩
      case measure => simp [intOf]; omega
end Go.Proofs.Ytkmjcjhnfpkakaa
