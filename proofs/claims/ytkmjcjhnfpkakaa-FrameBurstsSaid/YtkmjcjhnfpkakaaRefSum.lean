/- The reference's sum, by a row of 32 bits. -/
import Derived.Test.YtkmjcjhnfpkakaaFrame5
import Derived.Test.YtkmjcjhnfpkakaaCrcBits
import Derived.Laws.OwnMore
set_option linter.unusedVariables false
set_option linter.unusedSimpArgs false
namespace Go.Proofs.Ytkmjcjhnfpkakaa
open Go Go.RowKit

/-- A block that holds n bools. -/
def Bits (w : World) (g : Nat) (T : TypeId) (n : Nat) (s : Nat → Bool) : Prop := w.heap[g]? = some (.cells (((List.range n).map fun i => Value.bool (s i)).toArray) T (0, 0))
theorem Bits.cell {w : World} {g : Nat} {T : TypeId} {n : Nat} {s : Nat → Bool} (h : Bits w g T n s) (i : Nat) (hi : i < n) : w.cell? ⟨g, i, none⟩ = some (.bool (s i)) := by
  unfold Bits at h
  simp [World.cell?, h, hi]
theorem Bits.frozen {w : World} {g : Nat} {T : TypeId} {n : Nat} {s : Nat → Bool} (h : Bits w g T n s) (i : Nat) : w.frozen? ⟨g, i, none⟩ = false := by
  unfold Bits at h
  simp [World.frozen?, h]
theorem Bits.congr {w : World} {g : Nat} {T : TypeId} {n : Nat} {s t : Nat → Bool} (h : Bits w g T n s) (hs : ∀ i, i < n → s i = t i) : Bits w g T n t := by
  unfold Bits at *
  have e : (List.range n).map (fun i => Value.bool (s i)) = (List.range n).map fun i => Value.bool (t i) := List.map_congr_left fun i hi => by rw [hs i (List.mem_range.1 hi)]
  rw [h, e]
theorem Bits.set {w : World} {g : Nat} {T : TypeId} {n : Nat} {s : Nat → Bool} (h : Bits w g T n s) (i : Nat) (hi : i < n) (b : Bool) : Bits (w.setCell ⟨g, i, none⟩ (.bool b)) g T n (fun j => if j = i then b else s j) := by
  unfold Bits at *
  have hlt : g < w.heap.size := by
    rcases Nat.lt_or_ge g w.heap.size with hl | hl
    · exact hl
    · rw [Array.getElem?_eq_none hl] at h; cases h
  simp only [World.setCell, Array.getElem?_modify, if_true, h, Option.map_some]
  congr 2
  apply Array.ext'
  simp only [Option.isSome, Bool.false_eq_true, if_false, List.setIfInBounds_toArray, List.toList_toArray]
  apply List.ext_getElem?
  intro j
  rw [List.getElem?_set]
  simp only [List.length_map, List.length_range]
  by_cases hj : i = j
  · subst hj
    simp [hi]
  · rw [if_neg hj]
    by_cases hjn : j < n
    · simp [hjn, Ne.symm hj]
    · simp [hjn]
theorem Bits.below {w w' : World} {g : Nat} {T : TypeId} {n : Nat} {s : Nat → Bool} (h : Bits w g T n s) (hb : w'.heap[g]? = w.heap[g]?) : Bits w' g T n s := by unfold Bits at *; rw [hb]; exact h


set_option maxHeartbeats 2000000 in
theorem RSum_calls (A : Option Addr) (c : Nat) (l : List UInt8) (w : World) (hl : l.length ≤ 1099511627776) (hc : l.length ≤ c) (hm : c ≤ maxLen) (hr : Row kb w (fun k => k < w.heap.size) A l) :
    Calls Try.prog 11 #[.slice A l.length c] w fun e w' => e = .returned (.int .u32 (crcSum l).toNat) ∧ Below w.heap.size w w' := by
  have hm' := hm
  unfold maxLen at hm'
  go_enter Try.func11, Try.ntmps11
  go_wp2
  have h0 : Bits (w.alloc (.cells (((List.range 32).map fun i => Value.bool false).toArray) 50)) w.heap.size 50 32 (fun _ => false) := heap_alloc_new w _
  go_loopw [4] (fun i w' => ∃ k : Nat, k ≤ 32 ∧ i = .int .i64 k ∧ Bits w' w.heap.size 50 32 (fun i => decide (i < k)) ∧ Below w.heap.size w w') (fun i _ => 32 - (intOf i).toNat)
  case atStart => exact ⟨0, by omega, rfl, h0.congr (fun i hi => by simp), blw_alloc (Below.refl _ _) _⟩
  case round =>
    clear h0
    obtain ⟨k, hk, rfl, hb, hB⟩ := hrel
    by_cases hlt : k < 32
    · have hc1 := hb.cell k hlt
      have hf1 := hb.frozen k
      have hst := hb.set k hlt true
      have q1 : (k < 32) = True := eq_true hlt
      go_wp2
      go_roundw
      case rel => exact ⟨k + 1, hlt, by go_num, hst.congr (fun i hi => by by_cases h : i = k <;> simp [h] <;> omega), hB.setCell (Nat.le_refl _) _⟩
      case measure => simp [intOf]; omega
    · obtain rfl : k = 32 := by omega
      have hb0 : Bits wr w.heap.size 50 32 (xbit (crcRaw (~~~ 0) (l.take 0))) := hb.congr (fun i hi => by show decide (i < 32) = xbit (~~~ 0) i; rw [ones_bit i hi]; simp [hi])
      clear hb
      go_wp2
      go_loopw [21] (fun i w' => ∃ k : Nat, k ≤ l.length ∧ i = .int .i64 k ∧ Bits w' w.heap.size 50 32 (xbit (crcRaw (~~~ 0) (l.take k))) ∧ Below w.heap.size w w') (fun i _ => l.length - (intOf i).toNat)
      case atStart => exact ⟨0, by omega, rfl, hb0, hB⟩
      case round =>
        clear hb0 hB
        obtain ⟨k, hk, rfl, hb, hB⟩ := hrel
        by_cases hlt : k < l.length
        · obtain ⟨ad, rfl, hcell⟩ := (hr.belowF (fun _ h => h) hB).u8_at k hlt
          have Hsn := Lib.hid (show crcRaw (~~~ 0) (l.take (k + 1)) = refBits 8 (crcRaw (~~~ 0) (l.take k)) l[k] by rw [refBits_byte, take_snoc _ _ hlt, crcRaw_append]; rfl)
          generalize crcRaw (~~~ 0) (l.take k) = x at *
          have hcl := l[k].toNat_lt
          generalize l[k] = c8 at *
          go_wp2
          go_loopw [7] (fun i w' => ∃ j : Nat, j ≤ 8 ∧ i = .int .i64 j ∧ Bits w' w.heap.size 50 32 (xbit (refBits j x c8)) ∧ Below w.heap.size w w') (fun i _ => 8 - (intOf i).toNat)
          case atStart => exact ⟨0, by omega, rfl, hb, hB⟩
          case round =>
            clear hb hB
            obtain ⟨j, hj, rfl, hb, hB⟩ := hrel
            by_cases hjt : j < 8
            · have Hst := Lib.hid (show refBits (j + 1) x c8 = refBit (refBits j x c8) (c8.toNat.testBit j) from rfl)
              generalize refBits j x c8 = y at *
              have hc0 := hb.cell 0 (by omega)
              go_wp2
              rw [byte_bit]
              obtain ⟨u, hu⟩ : ∃ u, u = (xbit y 0 != c8.toNat.testBit j) := ⟨_, rfl⟩
              have hu' : (!(xbit y 0 == c8.toNat.testBit j)) = u := hu.symm
              rw [hu']
              clear hu'
              have Hu := Lib.hid hu
              clear hu hc0
              go_loopw [9] (fun i w' => ∃ m : Nat, m ≤ 31 ∧ i = .int .i64 m ∧ Bits w' w.heap.size 50 32 (fun i => if i < m then xbit y (i + 1) else xbit y i) ∧ Below w.heap.size w w') (fun i _ => 31 - (intOf i).toNat)
              case atStart => exact ⟨0, by omega, rfl, hb.congr (fun i hi => by simp), hB⟩
              case round =>
                clear hb hB
                obtain ⟨m, hm31, rfl, hb, hB⟩ := hrel
                by_cases hmt : m < 31
                · have hc1 := hb.cell m (by omega)
                  have hc2 := hb.cell (m + 1) (by omega)
                  rw [if_neg (by omega)] at hc1 hc2
                  have hf1 := hb.frozen m
                  have hst := hb.set m (by omega) (xbit y (m + 1))
                  have q1 : (m < 32) = True := eq_true (by omega)
                  have q2 : (m + 1 < 32) = True := eq_true (by omega)
                  go_wp2
                  go_roundw
                  case rel => exact ⟨m + 1, by omega, by go_num, hst.congr (fun i hi => by by_cases h : i = m; (· subst h; simp); (· by_cases h2 : i < m; (· simp [h, h2, show i < m + 1 by omega]); (· simp [h, h2, show ¬ i < m + 1 by omega]))), hB.setCell (Nat.le_refl _) _⟩
                  case measure => simp [intOf]; omega
                · obtain rfl : m = 31 := by omega
                  have hc1 := hb.cell 31 (by omega)
                  have hf1 := hb.frozen 31
                  have hst := hb.set 31 (by omega) false
                  have hb2 : Bits (wr.setCell ⟨w.heap.size, 31, none⟩ (.bool false)) w.heap.size 50 32 (fun i => xbit (y >>> 1) i) := hst.congr (fun i hi => by
                    rw [xbit_shr]
                    by_cases h : i = 31
                    · subst h; simp [xbit_big]
                    · simp [h, show i < 31 by omega])
                  clear hst hb
                  have hB2 := hB.setCell (p := ⟨w.heap.size, 31, none⟩) (Nat.le_refl _) (.bool false)
                  go_wp2
                  go_loopw [10] (fun i w' => ∃ m : Nat, m ≤ 32 ∧ i = .int .i64 m ∧ Bits w' w.heap.size 50 32 (fun i => if i < m then xbit (refBit y (c8.toNat.testBit j)) i else xbit (y >>> 1) i) ∧ Below w.heap.size w w') (fun i _ => 32 - (intOf i).toNat)
                  case atStart => exact ⟨0, by omega, rfl, hb2.congr (fun i hi => by simp), hB2⟩
                  case round =>
                    clear hb2 hB2 hB
                    obtain ⟨m, hm32, rfl, hb, hB⟩ := hrel
                    by_cases hmt : m < 32
                    · have hc1 := hb.cell m (by omega)
                      rw [if_neg (by omega)] at hc1
                      have hf1 := hb.frozen m
                      have q1 : (m < 32) = True := eq_true (by omega)
                      have hpb := poly_bit m hmt
                      have hrb := refBit_bit y (c8.toNat.testBit j) u Hu.out m
                      cases u with
                      | false =>
                        rw [Bool.false_and, Bool.xor_false] at hrb
                        have hst : Bits wr w.heap.size 50 32 (fun i => if i < m + 1 then xbit (refBit y (c8.toNat.testBit j)) i else xbit (y >>> 1) i) := hb.congr (fun i hi => by
                          by_cases h : i = m
                          · subst h; simp [hrb]
                          · by_cases h2 : i < m
                            · simp [h2, show i < m + 1 by omega]
                            · simp [h2, show ¬ i < m + 1 by omega])
                        clear hrb hpb
                        go_wp2
                        go_roundw
                        case rel => exact ⟨m + 1, by omega, by go_num, hst, hB⟩
                        case measure => simp [intOf]; omega
                      | true =>
                        rw [Bool.true_and] at hrb
                        cases hp : xbit poly m with
                        | false =>
                          rw [hp] at hpb hrb
                          rw [Bool.xor_false] at hrb
                          have hst : Bits wr w.heap.size 50 32 (fun i => if i < m + 1 then xbit (refBit y (c8.toNat.testBit j)) i else xbit (y >>> 1) i) := hb.congr (fun i hi => by
                            by_cases h : i = m
                            · subst h; simp [hrb]
                            · by_cases h2 : i < m
                              · simp [h2, show i < m + 1 by omega]
                              · simp [h2, show ¬ i < m + 1 by omega])
                          clear hrb hp
                          go_wp2
                          go_roundw
                          case rel => exact ⟨m + 1, by omega, by go_num, hst, hB⟩
                          case measure => simp [intOf]; omega
                        | true =>
                          rw [hp] at hpb hrb
                          rw [Bool.xor_true] at hrb
                          have hst := (hb.set m hmt (!xbit (y >>> 1) m)).congr (t := fun i => if i < m + 1 then xbit (refBit y (c8.toNat.testBit j)) i else xbit (y >>> 1) i) (fun i hi => by
                            by_cases h : i = m
                            · subst h; simp [hrb]
                            · by_cases h2 : i < m
                              · simp [h, h2, show i < m + 1 by omega]
                              · simp [h, h2, show ¬ i < m + 1 by omega])
                          clear hrb hp
                          go_wp2
                          go_roundw
                          case rel => exact ⟨m + 1, by omega, by go_num, hst, hB.setCell (Nat.le_refl _) _⟩
                          case measure => simp [intOf]; omega
                    · obtain rfl : m = 32 := by omega
                      have hst : Bits wr w.heap.size 50 32 (xbit (refBits (j + 1) x c8)) := hb.congr (fun i hi => by rw [Hst.out]; simp [hi])
                      clear hb
                      go_wp2
                      go_roundw
                      case rel => exact ⟨j + 1, hjt, by go_num, hst, hB⟩
                      case measure => simp [intOf]; omega
            · obtain rfl : j = 8 := by omega
              go_wp2
              go_roundw
              case rel => exact ⟨k + 1, hlt, by go_num, by rw [Hsn.out]; exact hb, hB⟩
              case measure => simp [intOf]; omega
        · obtain rfl : k = l.length := by omega
          rw [List.take_length] at hb
          have Hsum := Lib.hid (show crcSum l = ~~~ (crcRaw (~~~ 0) l) from rfl)
          generalize crcRaw (~~~ 0) l = x at *
          go_wp2
          go_loopw [11, 12] (fun s i w' => ∃ m : Nat, m ≤ 32 ∧ i = .int .i64 m ∧ s = .int .u32 (((~~~ x).toNat % 2 ^ m : Nat) : Int) ∧ Bits w' w.heap.size 50 32 (xbit x) ∧ Below w.heap.size w w') (fun _ i _ => 32 - (intOf i).toNat)
          case atStart => exact ⟨0, by omega, rfl, by simp [Nat.mod_one], hb, hB⟩
          case round =>
            clear hb hB
            obtain ⟨m, hm32, rfl, rfl, hb, hB⟩ := hrel
            by_cases hmt : m < 32
            · have hc1 := hb.cell m hmt
              have q1 : (m < 32) = True := eq_true hmt
              have Hnb := Lib.hid (not_bits x m hmt)
              have Hap := Lib.hid (add_pow _ m hmt (Nat.mod_lt (~~~ x).toNat (Nat.two_pow_pos m)))
              generalize (~~~ x).toNat % 2 ^ m = n at *
              cases hx : xbit x m with
              | false =>
                rw [hx] at hc1 Hnb
                clear hx
                go_wp2
                go_roundw
                case rel => exact ⟨m + 1, by omega, by go_num, by rw [Hnb.out, Hap.out]; simp, hb, hB⟩
                case measure => simp [intOf]; omega
              | true =>
                rw [hx] at hc1 Hnb
                clear hx
                go_wp2
                go_roundw
                case rel => exact ⟨m + 1, by omega, by go_num, by rw [Hnb.out]; simp, hb, hB⟩
                case measure => simp [intOf]; omega
            · obtain rfl : m = 32 := by omega
              go_wp2
              go_ret
              exact ⟨ret_int (by rw [Hsum.out]; have := (~~~ x).toNat_lt; rw [Nat.mod_eq_of_lt this]), hB⟩
end Go.Proofs.Ytkmjcjhnfpkakaa
