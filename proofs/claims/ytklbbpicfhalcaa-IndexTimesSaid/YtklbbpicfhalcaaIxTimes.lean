/- IndexTimes: the walk of the law. -/
import Derived.Test.YtklbbpicfhalcaaLaidLaw
import Derived.Test.YtklbbpicfhalcaaIx6
import Derived.Test.YtklbbpicfhalcaaIx7
import Derived.Test.YtklbbpicfhalcaaIx4
import Derived.BigQuiet
set_option linter.unusedVariables false
set_option linter.unusedSimpArgs false
namespace Go.Proofs.Ytklbbpicfhalcaa
open Go Go.RowKit

theorem meas_lt {k n : Nat} (h : k < n) : n - (intOf (Value.int .i64 ((k : Int) + 1))).toNat < n - (intOf (Value.int .i64 (k : Int))).toNat := by
  have e1 : intOf (Value.int .i64 ((k : Int) + 1)) = (k : Int) + 1 := rfl
  have e2 : intOf (Value.int .i64 (k : Int)) = (k : Int) := rfl
  rw [e1, e2]
  omega
set_option maxRecDepth 100000 in
set_option maxHeartbeats 8000000 in
theorem IndexTimes_calls (gap : Int) (A T : Option Addr) (ca ct : Nat) (sizes times : List Int) (time : Int) (w : World) (hs : sizes.length ≤ maxLen) (ht : times.length ≤ maxLen) (hA : Row (num .i64) w (fun k => k < w.heap.size) A sizes) (hT : Row (num .i64) w (fun k => k < w.heap.size) T times) :
    Calls Try.prog 5 #[.int .i64 gap, .slice A sizes.length ca, .slice T times.length ct, .int .i64 time] w fun e w' => e = .returned (.bool true) ∧ Below w.heap.size w w' := by
  have Hl := Lib.hid (laid_calls gap A T ca ct sizes times w hs ht hA hT)
  have hgl := absM_lt gap 300 (by decide)
  generalize absM gap 300 = gp at *
  have hnl : min sizes.length 80 ≤ 80 := by omega
  generalize hn : min sizes.length 80 = n at *
  clear hn
  go_enter Try.func5, Try.ntmps5
  go_wp2_with fail
  refine Hl.out.mono ?_
  rintro e w1 ⟨g, v, va, rfl, hx, ho, hap, hE1⟩
  obtain ⟨Av, cv, e, hc1, hc2, hr⟩ := ho.sl
  rw [batches_len] at e
  subst e
  have hr := hr.mono (G := fun k => k < w1.heap.size) fun j hj => (ho.at (hj.resolve_left id)).2
  clear hc1 hc2 ho hap Hl hA hT
  have Hr := Lib.hid hr
  have hlen := (laid_inv ((gp : Int) + 1) sizes times n).len
  have Hrise := Lib.hid (laid_inv ((gp : Int) + 1) sizes times n).rising
  have Haf := Lib.hid (After_calls w1 _ g v _ hx time (by omega) Hrise.out)
  have Hx := Lib.hid hx
  clear hr hx
  go_wp2_with fail
  refine Haf.out.mono ?_
  rintro e w2 ⟨rfl, hE2⟩
  clear Haf
  by_cases hz : n = 0 ∨ time < 0
  · rw [times_none _ _ _ _ _ hz]
    simp only [entV, z3]
    by_cases hn0 : n = 0
    · subst hn0
      go_wp2_with fail
      refine (awake_calls _).mono ?_
      rintro e w5 ⟨rfl, hE5⟩
      go_wp2
      go_ret
      exact ⟨rfl, Ext.trans _ _ _ hE1 (Ext.trans _ _ _ hE2 (Ext.trans _ _ _ (Ext.alloc _ _) hE5))⟩
    · have ht0 : time < 0 := hz.resolve_left hn0
      clear hz
      go_wp2_with fail
      refine (awake_calls _).mono ?_
      rintro e w5 ⟨rfl, hE5⟩
      go_wp2
      go_ret
      exact ⟨rfl, Ext.trans _ _ _ hE1 (Ext.trans _ _ _ hE2 (Ext.trans _ _ _ (Ext.alloc _ _) hE5))⟩
  · have hn0 : 0 < n := by omega
    have ht0 : 0 ≤ time := by omega
    clear hz
    obtain ⟨ea, eb, ec, haf, hti, htm⟩ := times_some ((gp : Int) + 1) sizes times n time hn0 ht0
    rw [haf]
    have Hti := Lib.hid hti
    have Htm := Lib.hid htm
    clear haf hti htm
    simp only [entV]
    have hnb : ((n : Int) == 0) = false := by rw [beq_eq_false_iff_ne]; omega
    have htb : decide (time < 0) = false := decide_eq_false (by omega)
    go_wp2_with fail
    have hE3 := Ext.trans _ _ _ hE2 (Ext.alloc w2 (.cells #[.int .i64 ea, .int .i64 eb, .int .i64 ec] 28))
    have hp3 := heap_alloc_new w2 (.cells #[.int .i64 ea, .int .i64 eb, .int .i64 ec] 28)
    generalize hw3 : w2.alloc (.cells #[.int .i64 ea, .int .i64 eb, .int .i64 ec] 28) = w3 at *
    generalize hb3 : w2.heap.size = b3 at *
    clear hw3 hb3 hE2 hnb htb
    have Hp3 := Lib.hid (fun W (h : Ext w3 W) => show W.cell? ⟨b3, 0, none⟩ = some (.int .i64 ea) ∧ W.cell? ⟨b3, 1, none⟩ = some (.int .i64 eb) ∧ W.cell? ⟨b3, 2, none⟩ = some (.int .i64 ec) by
      have := h.block _ (Array.getElem?_eq_some_iff.1 hp3).1
      rw [hp3] at this
      simp [World.cell?, this])
    clear hp3
    go_loopw [51] (fun i w' => ∃ k : Nat, k ≤ n ∧ i = .int .i64 k ∧ Ext w3 w') (fun i _ => n - (intOf i).toNat)
    case atStart => exact ⟨0, by omega, rfl, Ext.refl _⟩
    case round =>
      obtain ⟨k, hk, rfl, hE⟩ := hrel
      by_cases hlt : k < n
      · obtain ⟨ad, hA1, c1, c2, c3⟩ := (Hr.out.belowF (fun _ h => h) (Ext.trans _ _ _ hE3 hE)).ent_at k (by rw [batches_len]; exact hlt)
        have hb : (batches sizes times n)[k]'(by rw [batches_len]; exact hlt) = (3 * (k : Int), (placeAt sizes k : Int), (timeAt times k : Int)) := by
          simp [batches, batchAt]
        rw [hb] at c1 c2 c3
        clear hb
        subst hA1
        have Ht := Lib.hid (Hti.out k hlt)
        obtain ⟨q1, q2, q3⟩ := Hp3.out _ (Ext.trans _ _ _ hE (Ext.alloc wr (.cells #[.int .i64 (3 * (k : Int)), .int .i64 (placeAt sizes k : Nat), .int .i64 (timeAt times k : Nat)] 38)))
        generalize timeAt times k = tk at *
        generalize placeAt sizes k = pk at *
        by_cases hka : 3 * (k : Int) < ea
        · have hnt : decide (time ≤ (tk : Int)) = false := decide_eq_false (by have := Ht.out hka; omega)
          go_wp2
          exact ⟨⟨k + 1, by omega, by rw [Int.natCast_succ], Ext.trans _ _ _ hE (Ext.alloc _ _)⟩, meas_lt hlt⟩
        · go_wp2
          exact ⟨⟨k + 1, by omega, by rw [Int.natCast_succ], Ext.trans _ _ _ hE (Ext.alloc _ _)⟩, meas_lt hlt⟩
      · obtain rfl : k = n := by omega
        have Hal := Lib.hid (All_calls wr _ g v _ (Hx.out.ext (Ext.trans _ _ _ hE3 hE)) (by omega))
        clear hr Hx Hrise Hti
        generalize hL : (ixAt ((gp : Int) + 1) sizes times k).l = L at *
        clear hL
        go_wp2_with fail
        refine Hal.out.mono ?_
        rintro e w4 ⟨va2, rfl, ho2, hE4⟩
        obtain ⟨A2, c2, rfl, hc1, hc2, hr2⟩ := ho2.sl
        have hr2 := hr2.mono (G := fun k => k < w4.heap.size) fun j hj => (ho2.at (hj.resolve_left id)).2
        have hEE := Ext.trans _ _ _ hE hE4
        have Hr2 := Lib.hid hr2
        clear hr2 ho2 hc1 hc2 Hal hE hE4
        go_wp2_with fail
        go_loopw [70] (fun i w' => ∃ m : Nat, m ≤ L.length ∧ i = .int .i64 m ∧ Ext w4 w') (fun i _ => L.length - (intOf i).toNat)
        case atStart => exact ⟨0, by omega, rfl, Ext.refl _⟩
        case round =>
          obtain ⟨m, hm, rfl, hE⟩ := hrel
          by_cases hmlt : m < L.length
          · obtain ⟨ad, hA1, c1, c2, c3⟩ := (Hr2.out.belowF (fun _ h => h) hE).ent_at m hmlt
            have hLm : L.getD m z3 = L[m] := by simp [hmlt]
            have Hm := Lib.hid (Htm.out m hmlt)
            rw [hLm] at Hm
            clear hLm
            subst hA1
            generalize L[m] = f at *
            obtain ⟨fa, fb, fc⟩ := f
            simp only at c1 c2 c3 Hm
            go_wp2_with fail
            have hE5 := Ext.trans _ _ _ hE (Ext.alloc wr (.cells #[.int .i64 fa, .int .i64 fb, .int .i64 fc] 28))
            have hp5 := heap_alloc_new wr (.cells #[.int .i64 fa, .int .i64 fb, .int .i64 fc] 28)
            generalize hw5 : wr.alloc (.cells #[.int .i64 fa, .int .i64 fb, .int .i64 fc] 28) = w5 at *
            generalize hb5 : wr.heap.size = b5 at *
            clear hw5 hb5 hE c1 c2 c3
            have Hp5 := Lib.hid (fun W (h : Ext w5 W) => show W.cell? ⟨b5, 0, none⟩ = some (.int .i64 fa) ∧ W.cell? ⟨b5, 1, none⟩ = some (.int .i64 fb) ∧ W.cell? ⟨b5, 2, none⟩ = some (.int .i64 fc) by
              have := h.block _ (Array.getElem?_eq_some_iff.1 hp5).1
              rw [hp5] at this
              simp [World.cell?, this])
            clear hp5
            go_loopw [17, 76] (fun b i w' => ∃ j : Nat, j ≤ k ∧ i = .int .i64 j ∧ b = .bool (earlyB times fa time j) ∧ Ext w5 w') (fun _ i _ => k - (intOf i).toNat)
            case atStart => exact ⟨0, by omega, rfl, rfl, Ext.refl _⟩
            case round =>
              obtain ⟨j, hj, rfl, rfl, hE⟩ := hrel
              by_cases hjlt : j < k
              · obtain ⟨ad, hA1, c1, c2, c3⟩ := (Hr.out.belowF (fun _ h => h) (Ext.trans _ _ _ hE3 (Ext.trans _ _ _ hEE (Ext.trans _ _ _ hE5 hE)))).ent_at j (by rw [batches_len]; exact hjlt)
                have hb : (batches sizes times k)[j]'(by rw [batches_len]; exact hjlt) = (3 * (j : Int), (placeAt sizes j : Int), (timeAt times j : Int)) := by
                  simp [batches, batchAt]
                rw [hb] at c1 c2 c3
                clear hb
                subst hA1
                have Hes := Lib.hid (early_succ times fa time j)
                obtain ⟨q1, q2, q3⟩ := Hp5.out _ (Ext.trans _ _ _ hE (Ext.alloc wr (.cells #[.int .i64 (3 * (j : Int)), .int .i64 (placeAt sizes j : Nat), .int .i64 (timeAt times j : Nat)] 38)))
                generalize timeAt times j = tk at *
                generalize placeAt sizes j = pk at *
                generalize earlyB times fa time j = eb0 at *
                have hE6 := Ext.trans _ _ _ hE (Ext.alloc wr (.cells #[.int .i64 (3 * (j : Int)), .int .i64 (pk : Nat), .int .i64 (tk : Nat)] 38))
                cases eb0 with
                | false =>
                  go_wp2
                  exact ⟨⟨j + 1, by omega, by rw [Int.natCast_succ], by rw [Hes.out]; rfl, hE6⟩, meas_lt hjlt⟩
                | true =>
                  by_cases hka : fa ≤ 3 * (j : Int)
                  · go_wp2
                    exact ⟨⟨j + 1, by omega, by rw [Int.natCast_succ], by rw [Hes.out, decide_eq_true hka]; rfl, hE6⟩, meas_lt hjlt⟩
                  · go_wp2
                    exact ⟨⟨j + 1, by omega, by rw [Int.natCast_succ], by rw [Hes.out, decide_eq_false hka]; rfl, hE6⟩, meas_lt hjlt⟩
              · obtain rfl : j = k := by omega
                have hfin : decide (ea < fa) = true → earlyB times fa time j = false := fun h => early_not _ _ _ _ (Hm.out (of_decide_eq_true h))
                generalize earlyB times fa time j = eb0 at *
                obtain ⟨q1, q2, q3⟩ := Hp5.out _ hE
                obtain ⟨q4, q5, q6⟩ := Hp3.out _ (Ext.trans _ _ _ hEE (Ext.trans _ _ _ hE5 hE))
                have hE7 := Ext.trans _ _ _ hE5 hE
                by_cases hlt2 : ea < fa
                · rw [hfin (decide_eq_true hlt2)]
                  clear hfin
                  go_wp2
                  exact ⟨⟨m + 1, by omega, by rw [Int.natCast_succ], hE7⟩, meas_lt hmlt⟩
                · clear hfin
                  go_wp2
                  exact ⟨⟨m + 1, by omega, by rw [Int.natCast_succ], hE7⟩, meas_lt hmlt⟩
          · obtain rfl : m = L.length := by omega
            go_wp2_with fail
            refine (awake_calls _).mono ?_
            rintro e w5 ⟨rfl, hE5⟩
            go_wp2
            go_ret
            exact ⟨rfl, Ext.trans _ _ _ hE1 (Ext.trans _ _ _ hE3 (Ext.trans _ _ _ hEE (Ext.trans _ _ _ hE hE5)))⟩
end Go.Proofs.Ytklbbpicfhalcaa
