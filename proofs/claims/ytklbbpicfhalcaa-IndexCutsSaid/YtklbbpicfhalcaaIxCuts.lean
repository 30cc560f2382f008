/- IndexCuts: the walk of the law. -/
import Derived.Test.YtklbbpicfhalcaaCutLaw
import Derived.Test.YtklbbpicfhalcaaIx4
import Derived.Test.YtklbbpicfhalcaaIx6
import Derived.Test.YtklbbpicfhalcaaIx7
import Derived.Test.YtklbbpicfhalcaaIx8
import Derived.BigQuiet
set_option linter.unusedVariables false
set_option linter.unusedSimpArgs false
namespace Go.Proofs.Ytklbbpicfhalcaa
open Go Go.RowKit

theorem meas_lt2 {k n : Nat} (h : k < n) : n - (intOf (Value.int .i64 ((k : Int) + 1))).toNat < n - (intOf (Value.int .i64 (k : Int))).toNat := by
  have e1 : intOf (Value.int .i64 ((k : Int) + 1)) = (k : Int) + 1 := rfl
  have e2 : intOf (Value.int .i64 (k : Int)) = (k : Int) := rfl
  rw [e1, e2]
  omega
theorem cells3_of {W : World} {b : Nat} {x y z : Value} {t : TypeId} (h : W.heap[b]? = some (.cells #[x, y, z] t (0, 0))) : W.cell? ⟨b, 0, none⟩ = some x ∧ W.cell? ⟨b, 1, none⟩ = some y ∧ W.cell? ⟨b, 2, none⟩ = some z := by
  simp [World.cell?, h]
theorem cut_keeps {w2 w3 : World} {B g : Nat} {v2 v va : Value} {l : List (Int × Int × Int)} {e : TypeId} (hch : Chg g none w2 w3) (ho : Own ent e w2 B (fun _ => False) va l) (hap : Apart va v g) (hv : v2.ownBlock = v.ownBlock ∨ v2.ownBlock = none) :
    Own ent e w3 B (fun _ => False) va l ∧ Apart va v2 g := by
  refine ⟨ho.move (fun k hk => hch.block k (ho.at hk).2 (hap k hk).1 (fun e => by cases e)) fun _ h => h.elim, fun j hj => ⟨(hap j hj).1, fun e => ?_⟩⟩
  rcases hv with hv | hv
  · exact (hap j hj).2 (hv ▸ e)
  · rw [hv] at e; cases e
set_option maxRecDepth 100000 in
set_option maxHeartbeats 8000000 in
theorem IndexCuts_calls (gap : Int) (A : Option Addr) (ca : Nat) (sizes : List Int) (cut : Int) (w : World) (hs : sizes.length ≤ maxLen) (hA : Row (num .i64) w (fun k => k < w.heap.size) A sizes) :
    Calls Try.prog 6 #[.int .i64 gap, .slice A sizes.length ca, .int .i64 cut] w fun e w' => e = .returned (.bool true) ∧ Below w.heap.size w w' := by
  have Hl := Lib.hid (laid_calls gap A none ca 0 sizes [] w hs (Nat.zero_le _) hA (Row.nil _ _ _ _))
  have hgl := absM_lt gap 300 (by decide)
  generalize absM gap 300 = gp at *
  have hnl : min sizes.length 80 ≤ 80 := by omega
  generalize hn : min sizes.length 80 = n at *
  clear hn
  go_enter Try.func6, Try.ntmps6
  go_wp2_with fail
  refine Hl.out.mono ?_
  rintro e w1 ⟨g, v, va, rfl, hx, ho, hap, hE1⟩
  obtain ⟨Av, cv, e, hc1, hc2, hr⟩ := ho.sl
  rw [batches_len] at e
  subst e
  clear hc1 hc2 hr Hl hA
  have hlen := (laid_inv ((gp : Int) + 1) sizes [] n).len
  have Hrise := Lib.hid (laid_inv ((gp : Int) + 1) sizes [] n).rising
  have Hal := Lib.hid (All_calls w1 _ g v _ hx (by omega))
  have Hx := Lib.hid (And.intro hx (And.intro ho hap))
  clear hx ho hap
  go_wp2_with fail
  refine Hal.out.mono ?_
  rintro e w2 ⟨vw, rfl, how, hE2⟩
  obtain ⟨Aw, cw, rfl, hw1, hw2, hrw⟩ := how.sl
  have Hrw := Lib.hid (hrw.mono (G := fun k => w1.heap.size ≤ k ∧ k < w2.heap.size) fun j hj => how.at (hj.resolve_left id))
  have hgs := Hx.out.1.lt
  clear hw1 hw2 hrw how Hal
  have hx2 := Hx.out.1.ext hE2
  have Hcu := Lib.hid (Cut_calls w2 _ g v _ hx2 cut (by omega) Hrise.out)
  have Hx2 := Lib.hid hx2
  clear hx2
  go_wp2_with fail
  refine Hcu.out.mono ?_
  rintro e w3 (⟨hbad, rfl, rfl⟩ | ⟨hcu1, hcu2, v2, rfl, hx3, hch, hv2⟩)
  · have Hal := Lib.hid (All_calls w3 _ g v _ Hx2.out (by omega))
    generalize (ixAt ((gp : Int) + 1) sizes [] n).l = L at *
    by_cases hc0 : cut < 0
    · clear hbad
      go_wp2_with fail
      refine Hal.out.mono ?_
      rintro e w4 ⟨vw2, rfl, how2, hE4⟩
      obtain ⟨Aw2, cw2, rfl, _, _, _⟩ := how2.sl
      go_wp2_with fail
      refine (awake_calls _).mono ?_
      rintro e w5 ⟨rfl, hE5⟩
      go_wp2
      go_ret
      exact ⟨rfl, Ext.trans _ _ _ hE1 (Ext.trans _ _ _ hE2 (Ext.trans _ _ _ hE4 hE5))⟩
    · have hc3 : 1099511627776 < cut := by omega
      clear hbad
      go_wp2_with fail
      refine Hal.out.mono ?_
      rintro e w4 ⟨vw2, rfl, how2, hE4⟩
      obtain ⟨Aw2, cw2, rfl, _, _, _⟩ := how2.sl
      go_wp2_with fail
      refine (awake_calls _).mono ?_
      rintro e w5 ⟨rfl, hE5⟩
      go_wp2
      go_ret
      exact ⟨rfl, Ext.trans _ _ _ hE1 (Ext.trans _ _ _ hE2 (Ext.trans _ _ _ hE4 hE5))⟩
  · have hc := show fromM (ixAt ((gp : Int) + 1) sizes [] n) cut ≤ (ixAt ((gp : Int) + 1) sizes [] n).l.length from cutN_le _ _
    have Hlt := Lib.hid (from_lt Hrise.out cut)
    have Hal := Lib.hid (All_calls w3 _ g v2 _ hx3 (by rw [cutX_l, List.length_take]; omega))
    rw [cutX_l] at Hal
    have Hci := Lib.hid (fun h => cut_inv ((gp : Int) + 1) sizes n cut hnl h)
    have Hy0 := Lib.hid (show yAt ((gp : Int) + 1) sizes n cut 0 = cutX (ixAt ((gp : Int) + 1) sizes [] n) (fromM (ixAt ((gp : Int) + 1) sizes [] n) cut) from rfl)
    have hy1 : ∀ k : Nat, yAt ((gp : Int) + 1) sizes n cut (k + 1) = if 3 * (k : Int) < cut then yAt ((gp : Int) + 1) sizes n cut k else noteX (yAt ((gp : Int) + 1) sizes n cut k) (3 * (k : Int)) (placeAt sizes k : Nat) (timeAt [] k : Nat) := fun k => rfl
    have Hy1 := Lib.hid hy1
    clear hy1
    rw [← Hy0.out] at hx3
    generalize yAt ((gp : Int) + 1) sizes n cut = ys at *
    have hlc : ((ixAt ((gp : Int) + 1) sizes [] n).l.take (fromM (ixAt ((gp : Int) + 1) sizes [] n) cut)).length = fromM (ixAt ((gp : Int) + 1) sizes [] n) cut := by rw [List.length_take]; omega
    clear Hy0 Hx2 Hrise Hcu
    generalize fromM (ixAt ((gp : Int) + 1) sizes [] n) cut = c at *
    obtain ⟨ho3, hap3⟩ := cut_keeps hch (Hx.out.2.1.below hE2) Hx.out.2.2 hv2
    generalize (ixAt ((gp : Int) + 1) sizes [] n).l = L at *
    have hrw3 := Hrw.out.move (w' := w3) fun k hk => hch.block k hk.2 (by omega) (fun e => by cases e)
    have hE3 : Ext w w3 := Below.trans (Ext.trans _ _ _ hE1 hE2) (hch.below (Hx.out.1.1) (fun k e => by cases e) (Nat.le_trans hE1.size hE2.size))
    have hsz3 := Nat.le_trans hE2.size hch.size
    have hrw3 := hrw3.mono (G := fun k => k < w3.heap.size) fun k hk => Nat.lt_of_lt_of_le hk.2 hch.size
    have Hrw3 := Lib.hid hrw3
    have HX := Lib.hid (And.intro hx3 (And.intro ho3 hap3))
    clear hrw3 hx3 ho3 hap3 Hrw hch hv2 Hx hE2 hE1 hsz3 hgs
    go_wp2_with fail
    refine Hal.out.mono ?_
    rintro e w4 ⟨vn, rfl, hon, hE4⟩
    obtain ⟨An, cn, e, _, _, hrn⟩ := hon.sl
    rw [hlc] at e
    subst e
    have Hrn := Lib.hid (hrn.mono (G := fun k => k < w4.heap.size) fun j hj => (hon.at (hj.resolve_left id)).2)
    clear hrn hon Hal
    go_wp2_with fail
    go_loopw [11, 53] (fun q i w' => ∃ m : Nat, m ≤ L.length ∧ i = .int .i64 m ∧ q = .int .i64 (min m c : Nat) ∧ Ext w4 w') (fun _ i _ => L.length - (intOf i).toNat)
    case atStart => exact ⟨0, by omega, rfl, by rw [Nat.zero_min]; rfl, Ext.refl _⟩
    case round =>
      obtain ⟨m, hm, rfl, rfl, hE⟩ := hrel
      by_cases hml : m < L.length
      · obtain ⟨ad, hA1, c1, c2, c3⟩ := (Hrw3.out.belowF (fun _ h => h) (Ext.trans _ _ _ hE4 hE)).ent_at m hml
        have hLm : L.getD m z3 = L[m] := by simp [hml]
        have Hm := Lib.hid (Hlt.out m hml)
        rw [hLm] at Hm
        have hE5 := Ext.trans _ _ _ hE (Ext.alloc wr (.cells #[.int .i64 L[m].1, .int .i64 L[m].2.1, .int .i64 L[m].2.2] 28))
        have hp5 := heap_alloc_new wr (.cells #[.int .i64 L[m].1, .int .i64 L[m].2.1, .int .i64 L[m].2.2] 28)
        by_cases hmc : m < c
        · obtain ⟨an, hA2, d1, d2, d3⟩ := (Hrn.out.belowF (fun _ h => h) hE5).ent_at m (by rw [hlc]; exact hmc)
          have hLn : (L.take c)[m]'(by rw [hlc]; exact hmc) = L[m] := by rw [List.getElem_take]
          rw [hLn] at d1 d2 d3
          clear hLn hLm
          have hf := Hm.out.1 hmc
          rw [Nat.min_eq_left (Nat.le_of_lt hmc)]
          have Hmin := Lib.hid (show min (m + 1) c = m + 1 from Nat.min_eq_left hmc)
          generalize L[m] = f at *
          obtain ⟨fa, fb, fc⟩ := f
          simp only at c1 c2 c3 d1 d2 d3 Hm hf hE5 hp5
          subst hA1
          subst hA2
          have hc80 : c ≤ 80 := by omega
          have hd1 : decide ((c : Int) ≤ (m : Int)) = false := decide_eq_false (by omega)
          go_upto_region 13 with fail
          obtain ⟨q1, q2, q3⟩ := cells3_of hp5
          generalize wr.alloc (.cells #[.int .i64 fa, .int .i64 fb, .int .i64 fc] 28) = w5 at *
          generalize wr.heap.size = b5 at *
          clear hp5 c1 c2 c3
          go_quiet (fail)
          have hE6 : Ext w4 (w5.drewN nq) := blw_drewN hE5 nq
          go_wp2
          exact ⟨⟨m + 1, by omega, by rw [Int.natCast_succ], by rw [Hmin.out, Int.natCast_succ], hE6⟩, meas_lt2 hml⟩
        · rw [Nat.min_eq_right (Nat.le_of_not_lt hmc)]
          have Hmin := Lib.hid (show min (m + 1) c = c by omega)
          have hf : ¬ L[m].1 < cut := fun h => hmc (Hm.out.2 h)
          generalize L[m] = f at *
          obtain ⟨fa, fb, fc⟩ := f
          simp only at c1 c2 c3 Hm hf hE5 hp5
          subst hA1
          go_wp2
          exact ⟨⟨m + 1, by omega, by rw [Int.natCast_succ], by rw [Hmin.out], hE5⟩, meas_lt2 hml⟩
      · obtain rfl : m = L.length := by omega
        rw [Nat.min_eq_right hc]
        go_upto_region 19 with fail
        by_cases h1000 : 1000 < cut
        · go_wp2_with fail
          refine (awake_calls _).mono ?_
          rintro e w5 ⟨rfl, hE5⟩
          go_wp2
          go_ret
          exact ⟨rfl, Ext.trans _ _ _ hE3 (Ext.trans _ _ _ hE4 (Ext.trans _ _ _ hE hE5))⟩
        · by_cases hc0 : c = 0
          · subst hc0
            go_wp2_with fail
            refine (awake_calls _).mono ?_
            rintro e w5 ⟨rfl, hE5⟩
            go_wp2
            go_ret
            exact ⟨rfl, Ext.trans _ _ _ hE3 (Ext.trans _ _ _ hE4 (Ext.trans _ _ _ hE hE5))⟩
          · have Hci2 := Lib.hid (Hci.out (by omega))
            have hcb : ((c : Int) == 0) = false := by rw [beq_eq_false_iff_ne]; omega
            have hcd : decide (1000 < cut) = false := decide_eq_false h1000
            have hEw := Ext.trans _ _ _ hE3 (Ext.trans _ _ _ hE4 hE)
            have hx5 := HX.out.1.ext (Ext.trans _ _ _ hE4 hE)
            have ho5 := HX.out.2.1.below (Ext.trans _ _ _ hE4 hE)
            have hap5 := HX.out.2.2
            have Hst := Lib.hid (And.intro hx5 (And.intro ho5 (And.intro hap5 hEw)))
            clear hx5 ho5 hap5 hEw hE hE4 hE3 HX Hrn Hrw3 Hci Hlt hrw3
            go_wp2_with fail
            clear hcb hcd
            go_loopw [89] (fun i w' => ∃ k : Nat, k ≤ n ∧ i = .int .i64 k ∧ (∃ v, IxAt w' w.heap.size g v (ys k) ∧ Apart (.slice Av n cv) v g) ∧ Own ent 38 w' w.heap.size (fun _ => False) (.slice Av n cv) (batches sizes [] n) ∧ Ext w w') (fun i _ => n - (intOf i).toNat)
            case atStart => exact ⟨0, by omega, rfl, ⟨v2, Hst.out.1, Hst.out.2.2.1⟩, Hst.out.2.1, Hst.out.2.2.2⟩
            case round =>
              obtain ⟨k, hk, rfl, ⟨vk, hxk, hapk⟩, hok, hEk⟩ := hrel
              by_cases hkn : k < n
              · obtain ⟨hb1, hb2, hb3⟩ : 0 ≤ n ∧ 0 ≤ k ∧ k < (batches sizes [] n).length := ⟨by omega, by omega, by rw [batches_len]; exact hkn⟩
                obtain ⟨Ab, cb, e, _, _, hrb⟩ := hok.sl
                rw [batches_len] at e
                injection e with e1 e2 e3
                subst e1
                subst e3
                clear e2
                obtain ⟨ad, hA1, c1, c2, c3⟩ := hrb.ent_at k hb3
                have hb : (batches sizes [] n)[k]'hb3 = (3 * (k : Int), (placeAt sizes k : Int), (timeAt [] k : Int)) := by
                  simp [batches, batchAt]
                rw [hb] at c1 c2 c3
                clear hb hrb
                subst hA1
                have hp5 := heap_alloc_new wr (.cells #[.int .i64 (3 * (k : Int)), .int .i64 (placeAt sizes k : Nat), .int .i64 (timeAt [] k : Nat)] 38)
                obtain ⟨q1, q2, q3⟩ := cells3_of hp5
                have hE5 := Ext.alloc wr (.cells #[.int .i64 (3 * (k : Int)), .int .i64 (placeAt sizes k : Nat), .int .i64 (timeAt [] k : Nat)] 38)
                have hE6 := Ext.trans _ _ _ hEk hE5
                have hx6 := hxk.ext hE5
                have ho6 := hok.below hE5
                have hci := Hci2.out k
                have hys := Hy1.out k
                have hple := placeAt_le sizes k
                by_cases hkc : 3 * (k : Int) < cut
                · rw [if_pos hkc] at hys
                  generalize placeAt sizes k = pk at *
                  generalize timeAt [] k = tk at *
                  have Hst2 := Lib.hid (And.intro hx6 (And.intro ho6 (And.intro hE6 hys)))
                  clear hx6 ho6 hE6 hE5 hp5 q2 q3 hxk hok hEk hys hci
                  go_wp2
                  exact ⟨⟨k + 1, by omega, by rw [Int.natCast_succ], ⟨vk, by rw [Hst2.out.2.2.2]; exact Hst2.out.1, hapk⟩, Hst2.out.2.1, Hst2.out.2.2.1⟩, meas_lt2 hkn⟩
                · rw [if_neg hkc] at hys
                  have Hno := Lib.hid (cut_note hci (by omega) (by omega))
                  have Hfi := Lib.hid (cut_find (by omega) hci (by omega : cut ≤ 3 * (k : Int)))
                  have Hin := Lib.hid (cut_step hci (by omega : cut ≤ 3 * (k : Int)))
                  have Hft := Lib.hid (cut_fits hci (by omega) (by omega) (by omega))
                  rw [← hys] at Hno Hfi Hin
                  generalize placeAt sizes k = pk at *
                  generalize timeAt [] k = tk at *
                  have hgw := hxk.lt
                  have hvw := fun j (h : vk.ownBlock = some j) => (hxk.2.2.at h).2
                  have Hst2 := Lib.hid (And.intro hx6 (And.intro ho6 (And.intro hE6 hapk)))
                  clear hx6 ho6 hE6 hE5 hxk hok hEk hys hci hapk
                  go_wp2_with fail
                  generalize hw6 : wr.alloc (.cells #[.int .i64 (3 * (k : Int)), .int .i64 (pk : Nat), .int .i64 (tk : Nat)] 38) = w6 at *
                  obtain ⟨hx6, ho6, hE6, hapk⟩ := Hst2.out
                  refine (Note_calls w6 w.heap.size g vk (ys k) hx6 Hft.out hE6.size _ _ _).mono ?_
                  rintro e w7 ⟨v7, he, hx7, hc7, hv7⟩
                  rw [Hno.out] at he hx7
                  subst he
                  have hx7 : IxAt w7 w.heap.size g v7 (ys (k + 1)) := hx7
                  obtain ⟨ho7, hap7, hE7⟩ := laid_noted hE6 hx6 hapk ho6 hc7 hv7
                  have hp7 : w7.heap[wr.heap.size]? = some (.cells #[.int .i64 (3 * (k : Int)), .int .i64 (pk : Nat), .int .i64 (tk : Nat)] 38 (0, 0)) := by
                    rw [hc7.block _ (Array.getElem?_eq_some_iff.1 hp5).1 (by omega) (fun e => by have := hvw _ e.symm; omega)]
                    exact hp5
                  generalize wr.heap.size = b5 at *
                  clear hw6 hc7 hv7 hx6 ho6 hE6 hapk Hst2 hp5 q1 q2 q3 hvw hgw c1 c2 c3
                  obtain ⟨q1, q2, q3⟩ := cells3_of hp7
                  have Hf := Lib.hid (Find_calls w7 _ g v7 _ hx7 (3 * (k : Int)) (by have := Hin.out.len; omega) Hin.out.rising)
                  obtain ⟨ea, eb, ec, hf, f1, f2, f3, f4⟩ := Hfi.out
                  rw [hf] at Hf
                  have Hst3 := Lib.hid (And.intro hx7 (And.intro ho7 (And.intro hE7 hap7)))
                  clear hx7 ho7 hE7 hap7 hf Hfi
                  go_wp2_with fail
                  refine Hf.out.mono ?_
                  rintro e w8 ⟨rfl, hE8⟩
                  simp only [entV]
                  go_wp2_with fail
                  have hE9 := Ext.trans _ _ _ hE8 (Ext.alloc w8 (.cells #[.int .i64 ea, .int .i64 eb, .int .i64 ec] 28))
                  have hp9 := heap_alloc_new w8 (.cells #[.int .i64 ea, .int .i64 eb, .int .i64 ec] 28)
                  generalize hw9 : w8.alloc (.cells #[.int .i64 ea, .int .i64 eb, .int .i64 ec] 28) = w9 at *
                  generalize hb9 : w8.heap.size = b9 at *
                  clear hw9 hb9 q1 q2 q3 hE8 Hf
                  obtain ⟨q4, q5, q6⟩ := cells3_of hp9
                  have hp8 := (hE9.block _ (Array.getElem?_eq_some_iff.1 hp7).1).trans hp7
                  obtain ⟨q1, q2, q3⟩ := cells3_of hp8
                  clear hp7 hp8 hp9
                  have hx9 := Hst3.out.1.ext hE9
                  have hgap := Hin.out.gap
                  have HG := Lib.hid (show ∀ m, Calls Try.prog 13 #[.pointer (some ⟨g, 0, none⟩)] (w9.drewN m) (fun e w' => e = .returned (.int .i64 ((gp : Int) + 1)) ∧ w' = w9.drewN m) from
                    fun m => (Gap_calls (w9.drewN m) w.heap.size g v7 _ (hx9.move (Nat.le_refl _) fun _ _ => rfl)).mono fun e w' h => ⟨by rw [h.1, hgap], h.2.symm⟩)
                  clear hx9 hgap
                  have hd1 : decide (3 * (k : Int) < ea) = false := decide_eq_false (by omega)
                  have hd3 : decide ((gp : Int) + 1 ≤ (pk : Int) - eb) = false := decide_eq_false (by omega)
                  go_quiet (exact Calls.quiet_of_same (HG.out _))
                  have hE10 : Ext w7 (w9.drewN nq) := blw_drewN hE9 nq
                  go_wp2
                  go_roundw
                  case rel => exact ⟨k + 1, by omega, by rw [Int.natCast_succ], ⟨v7, Hst3.out.1.ext hE10, Hst3.out.2.2.2⟩, Hst3.out.2.1.below hE10, Ext.trans _ _ _ Hst3.out.2.2.1 hE10⟩
                  case measure => exact meas_lt2 hkn
              · obtain rfl : k = n := by omega
                go_wp2_with fail
                refine (awake_calls _).mono ?_
                rintro e w5 ⟨rfl, hE5⟩
                go_wp2
                go_ret
                exact ⟨rfl, Ext.trans _ _ _ hEk hE5⟩
end Go.Proofs.Ytklbbpicfhalcaa
