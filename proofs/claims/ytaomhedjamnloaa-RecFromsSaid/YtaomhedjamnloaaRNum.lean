/- The document's number: the plain law, and the contract. -/
import Derived.Test.YtaomhedjamnloaaWire4
import Derived.Test.YtaomhedjamnloaaWire1
set_option linter.unusedVariables false
set_option linter.unusedSimpArgs false
namespace Go.Proofs.Ytaomhedjamnloaa
open Go Go.RowKit

/-- Bytes of seven bits each, the last one the greatest. -/
def valL : List UInt8 → Nat
  | [] => 0
  | c :: r => c.toNat % 128 + 128 * valL r
theorem getU_run : ∀ (n : Nat) (l : List UInt8) (i acc : Nat) (h : n < l.length), (∀ j (hj : j < n), 128 ≤ (l[j]'(by omega)).toNat) → (l[n]).toNat < 128 → i + n ≤ 9 →
    getU i acc l = if (i + n = 9 ∧ 1 < (l[n]).toNat) ∨ ((l[n]).toNat = 0 ∧ 0 < i + n) then none else some (acc + valL (l.take (n + 1)) * 2 ^ (7 * i), i + n + 1)
  | n, [], i, acc, h, _, _, _ => by simp at h
  | 0, c :: r, i, acc, h, hc, hlt, hi => by
    simp only [List.getElem_cons_zero] at hlt ⊢
    simp only [Nat.add_zero] at hi ⊢
    unfold getU
    rw [if_neg (by omega)]
    by_cases h1 : i = 9 ∧ 1 < c.toNat
    · rw [if_pos h1, if_pos (.inl h1)]
    · rw [if_neg h1, if_neg (by omega)]
      by_cases h2 : c.toNat = 0 ∧ 0 < i
      · rw [if_pos h2, if_pos (.inr h2)]
      · rw [if_neg h2, if_neg (by omega)]
        simp [valL]
  | n + 1, c :: r, i, acc, h, hc, hlt, hi => by
    have hc0 := hc 0 (by omega)
    simp only [List.getElem_cons_zero] at hc0
    have hrec := getU_run n r (i + 1) (acc + c.toNat % 128 * 2 ^ (7 * i)) (by simpa using h) (fun j hj => by have := hc (j + 1) (by omega); simpa using this) (by simpa using hlt) (by omega)
    simp only [List.getElem_cons_succ]
    unfold getU
    rw [if_neg (by omega), if_neg (by omega), if_pos (by omega), hrec]
    have e1 : i + 1 + n = i + (n + 1) := by omega
    rw [e1]
    split
    · rfl
    · rw [List.take_succ_cons, valL, pow7_succ]
      congr 2
      rw [Nat.add_mul, Nat.add_assoc]
      congr 1
      rw [Nat.mul_comm 128 (valL _), Nat.mul_assoc]
theorem getU_short : ∀ (n : Nat) (l : List UInt8) (i acc : Nat) (h : n ≤ l.length), (∀ j (hj : j < n), 128 ≤ (l[j]'(by omega)).toNat) → (n = l.length ∨ 10 ≤ i + n) → getU i acc l = none
  | 0, [], i, acc, h, hc, ho => rfl
  | 0, c :: r, i, acc, h, hc, ho => by
    unfold getU
    rw [if_pos (by simp at ho; omega)]
  | n + 1, [], i, acc, h, hc, ho => by simp at h
  | n + 1, c :: r, i, acc, h, hc, ho => by
    have hc0 := hc 0 (by omega)
    simp only [List.getElem_cons_zero] at hc0
    have hrec := getU_short n r (i + 1) (acc + c.toNat % 128 * 2 ^ (7 * i)) (by simpa using h) (fun j hj => by have := hc (j + 1) (by omega); simpa using this) (by simp at ho; omega)
    unfold getU
    split
    · rfl
    · split
      · rfl
      · exact hrec
/-- What number tells. -/
def numM (l : List UInt8) : Nat × Nat := (getU 0 0 l).getD (0, 0)
theorem numM_none {l : List UInt8} {n : Nat} (h : n ≤ l.length) (hc : ∀ j (hj : j < n), 128 ≤ (l[j]'(by omega)).toNat) (ho : n = l.length ∨ 10 ≤ n) : numM l = (0, 0) := by
  unfold numM
  rw [getU_short n l 0 0 h hc (by omega)]
  rfl
theorem numM_some {l : List UInt8} {n : Nat} (h : n < l.length) (hc : ∀ j (hj : j < n), 128 ≤ (l[j]'(by omega)).toNat) (hlt : (l[n]).toNat < 128) (hn : n ≤ 9) :
    numM l = if (n = 9 ∧ 1 < (l[n]).toNat) ∨ ((l[n]).toNat = 0 ∧ 0 < n) then (0, 0) else (valL (l.take (n + 1)), n + 1) := by
  unfold numM
  rw [getU_run n l 0 0 h hc hlt (by omega)]
  simp only [Nat.zero_add, Nat.mul_zero, Nat.pow_zero, Nat.mul_one]
  split <;> rfl
theorem valL_drop {l : List UInt8} {n j : Nat} (h : n < l.length) (hj : j ≤ n) : valL ((l.take (n + 1)).drop j) = (l[j]'(by omega)).toNat % 128 + 128 * valL ((l.take (n + 1)).drop (j + 1)) := by
  have hl : j < (l.take (n + 1)).length := by rw [List.length_take]; omega
  rw [List.drop_eq_getElem_cons hl, valL, List.getElem_take]
theorem pow_step {j : Nat} (h1 : 1 ≤ j) (h9 : j ≤ 9) : 2 ^ (64 - 7 * (j - 1)) = 128 * 2 ^ (64 - 7 * j) := by
  rcases (show j = 1 ∨ j = 2 ∨ j = 3 ∨ j = 4 ∨ j = 5 ∨ j = 6 ∨ j = 7 ∨ j = 8 ∨ j = 9 by omega) with rfl | rfl | rfl | rfl | rfl | rfl | rfl | rfl | rfl <;> decide
set_option maxRecDepth 8000 in
set_option maxHeartbeats 4000000 in
theorem number_calls (A : Option Addr) (c : Nat) (l : List UInt8) (F : Nat → Prop) (w : World) (hn : l.length ≤ 1099511627776) (hr : Row kb w F A l) :
    Calls Try.prog 129 #[.slice A l.length c] w fun e w' => e = .returned (.tuple #[.int .u64 ((numM l).1 : Nat), .int .i64 ((numM l).2 : Nat)]) ∧ w = w' := by
  go_enter Try.func129, Try.ntmps129
  go_wp2_with fail
  go_loopw [4] (fun i w' => ∃ k : Nat, k ≤ l.length ∧ k ≤ 10 ∧ i = .int .i64 k ∧ Hid (∀ j (hj : j < k) (hl : j < l.length), 128 ≤ (l[j]).toNat) ∧ w = w') (fun i _ => l.length - (intOf i).toNat)
  case atStart => exact ⟨0, by omega, by omega, rfl, Lib.hid (fun j hj => by omega), rfl⟩
  case round =>
    obtain ⟨k, hk, hk10, rfl, Hc, rfl⟩ := hrel
    by_cases hlt : k < l.length
    · by_cases h10 : k < 10
      · obtain ⟨ad, hA, hcell⟩ := hr.u8_at k hlt
        subst hA
        have hb := (l[k]).toNat_lt
        by_cases h128 : 128 ≤ (l[k]).toNat
        · have hd : decide ((128 : Int) ≤ ((l[k]).toNat : Int)) = true := decide_eq_true (by omega)
          go_wp2
          refine ⟨⟨k + 1, by omega, by omega, by rw [Int.natCast_succ], Lib.hid (fun j hj hl => ?_), by first | rfl | trivial⟩, ?_⟩
          · by_cases hjk : j < k
            · exact Hc.out j hjk hl
            · have : j = k := by omega
              subst this
              exact h128
          · have e1 : intOf (Value.int .i64 ((k : Int) + 1)) = (k : Int) + 1 := rfl
            have e2 : intOf (Value.int .i64 (k : Int)) = (k : Int) := rfl
            rw [e1, e2]
            omega
        · have hd : decide ((128 : Int) ≤ ((l[k]).toNat : Int)) = false := decide_eq_false (by omega)
          have hM := numM_some hlt (fun j hj => Hc.out j hj (by omega)) (by omega) (by omega : k ≤ 9)
          by_cases hz : (l[k]).toNat = 0 ∧ 0 < k
          · have hM2 : numM l = (0, 0) := by rw [hM, if_pos (.inr hz)]
            have Hf := Lib.hid hM2
            have hz1 : (((l[k]).toNat : Int) == 0) = true := by rw [hz.1]; rfl
            clear hM hM2
            have hz2 := hz.2
            have hz3 : (0 : Int) < (k : Int) := by omega
            go_wp2
            go_ret2
            rw [Hf.out]
            exact ⟨rfl, rfl⟩
          · by_cases h9 : k = 9 ∧ 1 < (l[k]).toNat
            · have hM2 : numM l = (0, 0) := by rw [hM, if_pos (.inl h9)]
              have Hf := Lib.hid hM2
              have hz1 : (((l[k]).toNat : Int) == 0) = false := by simp; omega
              have h91 : ((k : Int) == 9) = true := by rw [h9.1]; rfl
              have h92 : decide ((1 : Int) < ((l[k]).toNat : Int)) = true := decide_eq_true (by omega)
              have h93 : (0 : Int) < (k : Int) := by omega
              clear hM hM2 h9 hz
              go_wp2
              go_ret2
              rw [Hf.out]
              exact ⟨rfl, rfl⟩
            · have hM2 : numM l = (valL (l.take (k + 1)), k + 1) := by rw [hM, if_neg (by omega)]
              have Hf := Lib.hid hM2
              have hlk : k = 9 → (l[k]).toNat ≤ 1 := fun e => by omega
              have Hlk := Lib.hid hlk
              have hk9 : k ≤ 9 := by omega
              have hz1 : ((0 : Int) < (k : Int)) → (((l[k]).toNat : Int) == 0) = false := fun h => by simp; omega
              have Hz := Lib.hid (And.intro hz1 h9)
              clear hM hM2 h9 hlk hz1 hz
              go_upto_region 6 with fail
              go_cut [51] (fun v wx => v = .bool false ∧ w = wx)
              case first =>
                by_cases hk0 : 0 < k
                · have hk0i : (0 : Int) < (k : Int) := by omega
                  have hz2 := Hz.out.1 hk0i
                  by_cases hk9b : k = 9
                  · have h91 : ((k : Int) == 9) = true := by rw [hk9b]; rfl
                    have h92 : decide ((1 : Int) < ((l[k]).toNat : Int)) = false := decide_eq_false (by have := Hz.out.2; omega)
                    clear hk9b
                    go_wp2
                    go_meet
                    exact ⟨rfl, rfl⟩
                  · have h91 : ((k : Int) == 9) = false := by simp; omega
                    clear hk9b
                    go_wp2
                    go_meet
                    exact ⟨rfl, rfl⟩
                · have hk0i : ¬ (0 : Int) < (k : Int) := by omega
                  have h91 : ((k : Int) == 9) = false := by simp; omega
                  go_wp2
                  go_meet
                  exact ⟨rfl, rfl⟩
              case rest =>
                obtain ⟨rfl, rfl⟩ := hcut
                go_wp2_with fail
                go_loopw [5, 6] (fun v i w' => ∃ (j V : Nat), j ≤ k + 1 ∧ i = .int .i64 ((j : Int) - 1) ∧ v = .int .u64 V ∧ Hid (V = valL ((l.take (k + 1)).drop j)) ∧ V < 2 ^ (64 - 7 * j) ∧ w = w') (fun _ i _ => (intOf i + 1).toNat)
                case atStart => exact ⟨k + 1, 0, Nat.le_refl _, by rw [Int.natCast_succ]; simp, rfl, Lib.hid (by rw [List.drop_of_length_le (by rw [List.length_take]; omega)]; rfl), Nat.two_pow_pos _, rfl⟩
                case round =>
                  obtain ⟨j, V, hj, hi, rfl, HV, hVb, rfl⟩ := hrel
                  cases j with
                  | zero =>
                    subst hi
                    have hval : numM l = (V, k + 1) := by rw [Hf.out, HV.out]; rfl
                    have Hval := Lib.hid hval
                    clear hval
                    go_wp2
                    go_ret2
                    rw [Hval.out]
                    exact ⟨rfl, rfl⟩
                  | succ m =>
                    rw [show (((m + 1 : Nat) : Int) - 1) = (m : Int) by omega] at hi
                    subst hi
                    obtain ⟨ad2, hA2, hcell2⟩ := hr.u8_at m (by omega)
                    injection hA2 with hA2
                    subst hA2
                    have hbm := (l[m]'(by omega)).toNat_lt
                    have hstep := valL_drop (l := l) (n := k) (j := m) hlt (by omega)
                    rw [← HV.out] at hstep
                    have hlast : m = 9 → (l[m]'(by omega)).toNat ≤ 1 := fun e => by
                      have : k = m := by omega
                      subst this
                      exact Hlk.out e
                    generalize (l[m]'(by omega)).toNat = cv at *
                    have hnew : cv % 128 + 128 * V < 2 ^ (64 - 7 * m) := by
                      by_cases h9 : m + 1 ≤ 9
                      · have := pow_step (j := m + 1) (by omega) h9
                        rw [Nat.add_sub_cancel] at this
                        omega
                      · have : m = 9 := by omega
                        subst this
                        have := hlast rfl
                        omega
                    have hle : 2 ^ (64 - 7 * m) ≤ 2 ^ 64 := Nat.pow_le_pow_right (by decide) (by omega)
                    have Hnew := Lib.hid (And.intro hnew hstep)
                    have hn64 : cv % 128 + 128 * V < 18446744073709551616 := by omega
                    clear hnew hstep hlast hle HV hVb hcell hb h128 hd Hlk
                    go_wp2
                    refine ⟨⟨m, cv % 128 + 128 * V, by omega, rfl, ?_, Lib.hid Hnew.out.2.symm, Hnew.out.1, trivial⟩, ?_⟩
                    · rw [show (V : Int) * 128 + (cv : Int) % 128 = ((cv % 128 + 128 * V : Nat) : Int) by omega]
                    · have e1 : intOf (Value.int .i64 ((m : Int) - 1)) = (m : Int) - 1 := rfl
                      have e2 : intOf (Value.int .i64 (m : Int)) = (m : Int) := rfl
                      rw [e1, e2]
                      omega
      · have hM := numM_none (n := k) hk (fun j hj => Hc.out j hj (by omega)) (by omega)
        have Hf := Lib.hid hM
        clear hM
        go_wp2
        go_ret2
        rw [Hf.out]
        exact ⟨rfl, rfl⟩
    · have hM := numM_none (n := k) hk (fun j hj => Hc.out j hj (by omega)) (by omega)
      have Hf := Lib.hid hM
      clear hM
      go_wp2
      go_ret2
      rw [Hf.out]
      exact ⟨rfl, rfl⟩
end Go.Proofs.Ytaomhedjamnloaa
