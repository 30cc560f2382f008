/- IndexNear: the walk of the law. -/
import Derived.Test.YtklbbpicfhalcaaLaidLaw
import Derived.Test.YtklbbpicfhalcaaIx6
import Derived.BigQuiet
set_option linter.unusedVariables false
set_option linter.unusedSimpArgs false
namespace Go.Proofs.Ytklbbpicfhalcaa
open Go Go.RowKit

set_option maxRecDepth 100000 in
set_option maxHeartbeats 8000000 in
theorem IndexNear_calls (gap : Int) (A : Option Addr) (ca : Nat) (sizes : List Int) (w : World) (hs : sizes.length ≤ maxLen) (hA : Row (num .i64) w (fun k => k < w.heap.size) A sizes) :
    Calls Try.prog 4 #[.int .i64 gap, .slice A sizes.length ca] w fun e w' => e = .returned (.bool true) ∧ Below w.heap.size w w' := by
  have Hl := Lib.hid (laid_calls gap A none ca 0 sizes [] w hs (Nat.zero_le _) hA (Row.nil _ _ _ _))
  have hgl := absM_lt gap 300 (by decide)
  generalize absM gap 300 = gp at *
  have hnl : min sizes.length 80 ≤ 80 := by omega
  generalize hn : min sizes.length 80 = n at *
  clear hn
  go_enter Try.func4, Try.ntmps4
  go_wp2_with fail
  refine Hl.out.mono ?_
  rintro e w1 ⟨g, v, va, rfl, hx, ho, hap, hE1⟩
  obtain ⟨Av, cv, e, hc1, hc2, hr⟩ := ho.sl
  rw [batches_len] at e
  subst e
  have hr := hr.mono (G := fun k => k < w1.heap.size) fun j hj => (ho.at (hj.resolve_left id)).2
  clear hc1 hc2 ho hap Hl hA
  have Hr := Lib.hid hr
  have Hx := Lib.hid hx
  clear hr hx
  go_wp2_with fail
  go_loopw [24] (fun i w' => ∃ k : Nat, k ≤ n ∧ i = .int .i64 k ∧ Ext w1 w') (fun i _ => n - (intOf i).toNat)
  case atStart => exact ⟨0, by omega, rfl, Ext.refl _⟩
  case round =>
    obtain ⟨k, hk, rfl, hE⟩ := hrel
    by_cases hlt : k < n
    · obtain ⟨ad, hA1, c1, c2, c3⟩ := (Hr.out.belowF (fun _ h => h) hE).ent_at k (by rw [batches_len]; exact hlt)
      have hb : (batches sizes [] n)[k]'(by rw [batches_len]; exact hlt) = (3 * (k : Int), (placeAt sizes k : Int), 0) := by
        simp [batches, batchAt, timeAt]
      rw [hb] at c1 c2 c3
      clear hb
      subst hA1
      have hpl := placeAt_le sizes k
      go_upto_if 29 with fail
      have hE2 := Ext.trans _ _ _ hE (Ext.alloc wr (.cells #[.int .i64 (3 * (k : Int)), .int .i64 (placeAt sizes k : Nat), .int .i64 0] 38))
      have hp2 := heap_alloc_new wr (.cells #[.int .i64 (3 * (k : Int)), .int .i64 (placeAt sizes k : Nat), .int .i64 0] 38)
      generalize hw2 : wr.alloc (.cells #[.int .i64 (3 * (k : Int)), .int .i64 (placeAt sizes k : Nat), .int .i64 0] 38) = w2 at *
      generalize hb2 : wr.heap.size = b2 at *
      clear hw2 hb2 hE c1 c2 c3
      have Hnf := Lib.hid (fun j (hj : j < 3) => near_find ((gp : Int) + 1) (by omega) sizes [] n k hlt j hj)
      generalize placeAt sizes k = pl at *
      go_loopw [9] (fun i w' => ∃ j : Nat, j ≤ 3 ∧ i = .int .i64 j ∧ Ext w2 w') (fun i _ => 3 - (intOf i).toNat)
      case atStart => exact ⟨0, by omega, rfl, Ext.refl _⟩
      case round =>
        obtain ⟨j, hj, rfl, hE3⟩ := hrel
        by_cases hjl : j < 3
        · obtain ⟨q0, q1, q2⟩ : wr.cell? ⟨b2, 0, none⟩ = some (.int .i64 (3 * (k : Int))) ∧ wr.cell? ⟨b2, 1, none⟩ = some (.int .i64 (pl : Nat)) ∧ wr.cell? ⟨b2, 2, none⟩ = some (.int .i64 0) := by
            have := hE3.block _ (Array.getElem?_eq_some_iff.1 hp2).1
            rw [hp2] at this
            simp [World.cell?, this]
          have hxr := Hx.out.ext (Ext.trans _ _ _ hE2 hE3)
          obtain ⟨ea, eb, ec, hf, h1, h2, h3, h4, h5⟩ := Hnf.out j hjl
          have Hf := Lib.hid (Find_calls wr _ g v _ hxr (3 * (k : Int) + (j : Int)) (by have := (laid_inv ((gp : Int) + 1) sizes [] n).len; omega) (laid_inv ((gp : Int) + 1) sizes [] n).rising)
          rw [hf] at Hf
          go_wp2_with fail
          refine Hf.out.mono ?_
          rintro e w3 ⟨rfl, hE4⟩
          simp only [entV]
          clear q0 q1 q2
          go_wp2_with fail
          have hE5 := Ext.trans _ _ _ hE3 (Ext.trans _ _ _ hE4 (Ext.alloc w3 (.cells #[.int .i64 ea, .int .i64 eb, .int .i64 ec] 28)))
          have hp5 := heap_alloc_new w3 (.cells #[.int .i64 ea, .int .i64 eb, .int .i64 ec] 28)
          generalize hw5 : w3.alloc (.cells #[.int .i64 ea, .int .i64 eb, .int .i64 ec] 28) = w5 at *
          generalize hb5 : w3.heap.size = b5 at *
          obtain ⟨q0, q1, q2⟩ : w5.cell? ⟨b2, 0, none⟩ = some (.int .i64 (3 * (k : Int))) ∧ w5.cell? ⟨b2, 1, none⟩ = some (.int .i64 (pl : Nat)) ∧ w5.cell? ⟨b2, 2, none⟩ = some (.int .i64 0) := by
            have := hE5.block _ (Array.getElem?_eq_some_iff.1 hp2).1
            rw [hp2] at this
            simp [World.cell?, this]
          obtain ⟨q3, q4, q5⟩ : w5.cell? ⟨b5, 0, none⟩ = some (.int .i64 ea) ∧ w5.cell? ⟨b5, 1, none⟩ = some (.int .i64 eb) ∧ w5.cell? ⟨b5, 2, none⟩ = some (.int .i64 ec) := by
            simp [World.cell?, hp5]
          have hx5 := Hx.out.ext (Ext.trans _ _ _ hE2 hE5)
          have hgap := (laid_inv ((gp : Int) + 1) sizes [] n).gap
          have HX := Lib.hid (And.intro hx5 hgap)
          clear hw5 hb5 hE3 hE4 hx5 hgap hxr hf Hf hp5
          have hd1 : decide (3 * (k : Int) < ea) = false := decide_eq_false (by omega)
          have hd2 : decide ((pl : Int) < eb) = false := decide_eq_false (by omega)
          have hd3 : decide ((gp : Int) + 1 ≤ (pl : Int) - eb) = false := decide_eq_false (by omega)
          have HG := Lib.hid (show ∀ m, Calls Try.prog 13 #[.pointer (some ⟨g, 0, none⟩)] (w5.drewN m) (fun e w' => e = .returned (.int .i64 ((gp : Int) + 1)) ∧ w' = w5.drewN m) from
            fun m => (Gap_calls (w5.drewN m) w.heap.size g v _ (HX.out.1.move (Nat.le_refl _) fun _ _ => rfl)).mono fun e w' h => ⟨by rw [h.1, HX.out.2], h.2.symm⟩)
          go_quiet (exact Calls.quiet_of_same (HG.out _))
          have hE6 : Ext w2 (w5.drewN nq) := blw_drewN hE5 nq
          go_wp2
          go_roundw
          case rel => exact ⟨j + 1, by omega, by rw [Int.natCast_succ], hE6⟩
          case measure =>
            have e1 : intOf (Value.int .i64 ((j : Int) + 1)) = (j : Int) + 1 := rfl
            have e2 : intOf (Value.int .i64 (j : Int)) = (j : Int) := rfl
            rw [e1, e2]
            omega
        · obtain rfl : j = 3 := by omega
          go_wp2
          refine ⟨⟨k + 1, by omega, by rw [Int.natCast_succ], Ext.trans _ _ _ hE2 hE3⟩, ?_⟩
          have e1 : intOf (Value.int .i64 ((k : Int) + 1)) = (k : Int) + 1 := rfl
          have e2 : intOf (Value.int .i64 (k : Int)) = (k : Int) := rfl
          rw [e1, e2]
          omega
    · obtain rfl : k = n := by omega
      have hxr := Hx.out.ext hE
      have Hf := Lib.hid (Find_calls wr _ g v _ hxr (-1) (by have := (laid_inv ((gp : Int) + 1) sizes [] k).len; omega) (laid_inv ((gp : Int) + 1) sizes [] k).rising)
      rw [near_ahead] at Hf
      go_wp2_with fail
      refine Hf.out.mono ?_
      rintro e w3 ⟨rfl, hE4⟩
      simp only [entV, z3]
      go_wp2_with fail
      refine (awake_calls _).mono ?_
      rintro e w5 ⟨rfl, hE5⟩
      go_wp2
      go_ret
      exact ⟨rfl, Ext.trans _ _ _ hE1 (Ext.trans _ _ _ hE (Ext.trans _ _ _ hE4 (Ext.trans _ _ _ (Ext.alloc _ _) hE5)))⟩
end Go.Proofs.Ytklbbpicfhalcaa
