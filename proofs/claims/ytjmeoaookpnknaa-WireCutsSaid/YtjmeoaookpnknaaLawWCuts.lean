/- WireCuts: the walk of the law. -/
import Derived.Test.YtjmeoaookpnknaaWCutLaw
import Derived.Test.YtjmeoaookpnknaaWAwake
import Derived.Test.YtjmeoaookpnknaaWire4
import Derived.Test.YtjmeoaookpnknaaRegion2
set_option linter.unusedVariables false
set_option linter.unusedSimpArgs false
namespace Go.Proofs.Ytjmeoaookpnknaa
open Go Go.RowKit

theorem info_int : (Try.prog.info? 3).map (fun i => (i.zero.map (fun z => z.cells.size), i.size, i.bytes)) = some (some (num .i64).sz, (num .i64).sz, 8) := by kernel_rfl
theorem meas_lt {k n : Nat} (h : k < n) : n - (intOf (Value.int .i64 ((k : Int) + 1))).toNat < n - (intOf (Value.int .i64 (k : Int))).toNat := by
  have e1 : intOf (Value.int .i64 ((k : Int) + 1)) = (k : Int) + 1 := rfl
  have e2 : intOf (Value.int .i64 (k : Int)) = (k : Int) := rfl
  rw [e1, e2]
  omega
theorem tmod_abs_lt (x : Int) (m : Nat) (h : 0 < m) : (x.tmod (m : Int)).natAbs < m := by
  rw [Int.natAbs_tmod, Int.natAbs_natCast]
  exact Nat.mod_lt _ h
theorem endsW_at (L : List Int) (n k : Nat) (h : k < (endsW L n).length) : (endsW L n)[k] = ((preN L (k + 1)).length : Int) := by simp [endsW]
/-- No block in common. -/
def Far (v u : Value) : Prop := ∀ j, v.ownBlock = some j → u.ownBlock ≠ some j
set_option maxRecDepth 100000 in
set_option maxHeartbeats 8000000 in
theorem WireCuts_calls (A : Option Addr) (c : Nat) (L0 : List Int) (at_ : Int) (w : World) (hat : -9223372036854775808 ≤ at_ ∧ at_ ≤ 9223372036854775807) (hn : L0.length ≤ c) (hm : c ≤ maxLen) (hr0 : Row (num .i64) w (fun k => k < w.heap.size) A L0) :
    Calls Try.prog 5 #[.slice A L0.length c, .int .i64 at_] w fun e w' => e = .returned (.bool true) ∧ Below w.heap.size w w' := by
  have hn63 : L0.length ≤ 9223372036854775807 := by unfold maxLen at hm; omega
  have Hat := Lib.hid hat
  clear hat
  go_enter Try.func5, Try.ntmps5
  go_upto_if 16 with fail
  go_cut [0] (fun v wx => v = .slice A (L0.take 40).length c ∧ w = wx)
  case first =>
    by_cases h40 : 40 < L0.length
    · have hsl := fun W => slice_to (P := Try.prog) 31 2 Try.underlying31 (by kernel_rfl) A L0.length c 40 (by decide) (by omega) W .i64
      have hlen : (L0.take 40).length = 40 := by rw [List.length_take]; omega
      rw [show (40 : Int).toNat = 40 from rfl] at hsl
      go_wp2
      go_meet
      exact ⟨by rw [hlen], rfl⟩
    · have hlen : (L0.take 40).length = L0.length := by rw [List.length_take]; omega
      go_wp2
      go_meet
      exact ⟨by rw [hlen], rfl⟩
  case rest =>
    obtain ⟨rfl, rfl⟩ := hcut
    have hr := hr0.take 40
    have hL40 : (L0.take 40).length ≤ 40 := by rw [List.length_take]; omega
    have hLi : ∀ x ∈ L0.take 40, -9223372036854775808 ≤ x ∧ x ≤ 9223372036854775807 := by
      intro x hx
      obtain ⟨i, hi, rfl⟩ := List.mem_iff_getElem.1 hx
      obtain ⟨_, _, _, hwf⟩ := hr.num_at' i hi
      exact i64_of_wf hwf
    clear hr0 hn
    generalize L0.take 40 = L at *
    have HLi := Lib.hid hLi
    clear hLi hn63
    go_wp2_with fail
    go_loopw [5, 6, 21] (fun v ve i w' => ∃ k : Nat, k ≤ L.length ∧ i = .int .i64 k ∧ Own kb 5 w' w.heap.size (fun _ => False) v (preN L k) ∧ Own (num .i64) 3 w' w.heap.size (fun _ => False) ve (endsW L k) ∧ Hid (Far v ve) ∧ Below w.heap.size w w') (fun _ _ i _ => L.length - (intOf i).toNat)
    case atStart => exact ⟨0, by omega, rfl, Own.nil _ _ _ _ _, Own.nil _ _ _ _ _, Lib.hid (fun j hj => by cases hj), Below.refl _ _⟩
    case round =>
      obtain ⟨k, hk, rfl, ho, hoe, Hd, hE⟩ := hrel
      by_cases hlt : k < L.length
      · obtain ⟨ad, hA1, hcell, hwf⟩ := (hr.belowF (fun _ h => h) hE).num_at' k hlt
        subst hA1
        have Hsn := Lib.hid (preN_succ L k hlt)
        have hpb := preN_bound L HLi.out (k + 1) (by omega)
        have Hes := Lib.hid (endsW_succ L k)
        have hel := endsW_len L k
        have Hi := Lib.hid (Int_calls L[k] (i64_of_wf hwf) wr)
        have hsz := hE.size
        obtain ⟨A3, c3, e3, _, _⟩ := ho.slice
        obtain ⟨A5, c5, e5, _, _⟩ := hoe.slice
        rw [hel] at e5
        subst e3
        subst e5
        clear hwf
        rw [Hsn.out, List.length_append] at hpb
        rw [Hsn.out] at Hes
        generalize encN (zig L[k]) = t at *
        generalize L[k] = n at *
        generalize preN L k = pre at *
        generalize endsW L k = es at *
        go_wp2_with fail
        refine Hi.out.mono ?_
        rintro e w2 ⟨vt, rfl, hot, hE2⟩
        have ho2 := ho.below hE2
        have hoe2 := hoe.below hE2
        have hB2 := Below.trans hE (Below.mono hE2 hsz)
        have Hat2 := Lib.hid (fun j (h : (Value.slice A5 k c5).ownBlock = some j) => (hoe2.at h).2)
        obtain ⟨A4, c4, e4, _, _⟩ := hot.slice
        subst e4
        have hsz2 := hB2.size
        clear hE ho hoe
        go_wp2_with (at_builtin; go_must (refine app_flat kb flat_kb w.heap.size rfl (.tmp 25) (.tmp 27) 23 5 1 rfl Try.underlying23 info_u8 (.slice A3 pre.length c3) (.slice A4 t.length c4) pre t (fun _ => False) _ rfl rfl ho2 hot.sl (by omega) (by simp only [maxLen]; omega) (by omega) ?_; intro v4 w4 ho4 hg4 ha4))
        have hoe4 := hoe2.grown hg4 (by
          cases h6 : (Value.slice A5 k c5).ownBlock with
          | none => exact .inl rfl
          | some j => exact .inr fun h => Hd.out j h.symm h6) (fun _ h => h.elim)
        have hB4 := hB2.grown hg4 hsz2 (fun k hk => (ho2.at hk).1)
        have H4 := Lib.hid (fun j (h : v4.ownBlock = some j) => (ho4.at h).2)
        have Hd4 := Lib.hid (show Far v4 (.slice A5 k c5) from fun j h h6 => by
          rcases ha4 with h5 | h5
          · exact Hd.out j (h5 ▸ h) h6
          · rw [h5] at h
            injection h with h
            have := Hat2.out j h6
            omega)
        obtain ⟨A6, c6, e6, hc6, hm6⟩ := ho4.slice
        have hpl : (pre ++ t).length ≤ 10 * (k + 1) := by rw [List.length_append]; exact hpb
        generalize pre ++ t = pr at *
        subst e6
        have hsz4 := hB4.size
        have hb := Lib.hid (boxed1 (heap_alloc_new w4 (.cells #[.int .i64 (pr.length : Int)] 3)))
        clear ha4 hg4 ho2 hot hoe2 hB2 hpb
        go_simp
        go_wp2_with (at_builtin; go_must (refine app_onef (num .i64) (flat_sc _ _ _) w.heap.size rfl (.tmp 29) (.tmp 32) 39 3 8 rfl Try.underlying39 info_int (.slice A5 k c5) es (pr.length : Int) w4.heap.size [.int .i64 (pr.length : Int)] (fun _ => False) rfl rfl (hoe4.alloc _) hb.out (num64_one _ _ _ (by omega)) (by omega) (by simp only [maxLen]; omega) (by simp; omega) ?_; intro v6 w6 ho6 hg6 ha6))
        go_roundw
        case rel =>
          refine ⟨k + 1, hlt, by rw [Int.natCast_succ], ?_, ?_, Lib.hid (fun j h h6 => ?_), ?_⟩
          · rw [Hsn.out]
            refine (ho4.alloc _).grown hg6 ?_ (fun _ h => h.elim)
            cases h8 : (Value.slice A6 pr.length c6).ownBlock with
            | none => exact .inl rfl
            | some j => exact .inr fun h => Hd4.out j h8 h.symm
          · rw [Hes.out]
            exact ho6
          · rcases ha6 with h5 | h5
            · exact Hd4.out j h (h5 ▸ h6)
            · rw [h5] at h6
              injection h6 with h6
              have := H4.out j h
              simp at h6
              omega
          · exact (hB4.alloc hsz4 _).grown hg6 (by simp; omega) (fun k hk => (hoe4.at hk).1)
        case measure => exact meas_lt hlt
      · obtain rfl : k = L.length := by omega
        have hel := endsW_len L L.length
        obtain ⟨A3, c3, e3, hc3, hm3, hr3⟩ := ho.sl
        obtain ⟨A5, c5, e5, _, _, hr5⟩ := hoe.sl
        rw [hel] at e5
        have hpb := preN_bound L HLi.out L.length (Nat.le_refl _)
        by_cases hz : (preN L L.length).length = 0
        · rw [hz] at e3
          subst e3
          subst e5
          go_wp2_with fail
          refine (awake_calls _).mono ?_
          rintro e w5 ⟨rfl, hE5⟩
          go_wp2
          go_ret
          exact ⟨rfl, Ext.trans _ _ _ hE hE5⟩
        · have hz0 : 0 < (preN L L.length).length := by omega
          have Ha := Lib.hid (tmod_abs_lt at_ (preN L L.length).length hz0)
          have hsz := hE.size
          have Hr5 := Lib.hid (hr5.mono (G := fun k => k < wr.heap.size) fun j hj => by
            have := hj.resolve_left id
            exact (hoe.at this).2)
          have hat := Hat.out
          have hbz : (((preN L L.length).length : Int) == 0) = false := by rw [beq_eq_false_iff_ne]; omega
          subst e5
          subst e3
          have Hstart := Lib.hid (stood_start L)
          have Hin := Lib.hid (fun a k y => stood_in L HLi.out a k y)
          have Hout := Lib.hid (fun a k y => stood_out L HLi.out a k y)
          have Hst : ∀ a k y, Stood L a k y = Stood L a k y := fun _ _ _ => rfl
          have Hend := Lib.hid (fun (a : Nat) (y : RdM) (h : Stood L a L.length y) (ha : a < (preN L L.length).length) => (show y.err = 6 from by
            rcases h.2 with ⟨_, h2, _⟩ | ⟨h2, _⟩
            · omega
            · exact h2))
          have hmod : (at_.tmod ((preN L L.length).length : Int) < 0 ∧ at_.tmod ((preN L L.length).length : Int) = -((at_.tmod ((preN L L.length).length : Int)).natAbs : Int)) ∨ (¬ at_.tmod ((preN L L.length).length : Int) < 0 ∧ at_.tmod ((preN L L.length).length : Int) = ((at_.tmod ((preN L L.length).length : Int)).natAbs : Int)) := by omega
          have Hmod := Lib.hid hmod
          clear hmod Hst hr5 hoe ho
          generalize (at_.tmod ((preN L L.length).length : Int)).natAbs = a at *
          have Hre := Lib.hid (endsW_at L L.length)
          have hal := Ha.out
          have Hbs := Lib.hid (show ((preN L L.length).take a).length = a by rw [List.length_take]; omega)
          generalize hP : preN L L.length = P at *
          generalize endsW L L.length = E at *
          go_upto_if 44 with fail
          go_cut [1] (fun v wx => v = .int .i64 (a : Nat) ∧ wr = wx)
          case first =>
            rcases Hmod.out with ⟨h1, h2⟩ | ⟨h1, h2⟩
            · go_wp2
              go_meet
              exact ⟨rfl, rfl⟩
            · go_wp2
              go_meet
              exact ⟨rfl, rfl⟩
          case rest =>
            obtain ⟨rfl, rfl⟩ := hcut
            have hsl := fun W => slice_to (P := Try.prog) 23 5 Try.underlying23 (by kernel_rfl) A3 P.length c3 (a : Int) (by omega) (by omega) W .i64
            rw [Int.toNat_natCast] at hsl
            have Hn := Lib.hid (show Calls Try.prog 15 #[.slice A3 a c3] wr (NewRPost wr (P.take a)) by
              have := NewReader_calls A3 c3 (P.take a) _ wr (by rw [Hbs.out]; omega) (by rw [Hbs.out]; omega) hm3 (hr3.take a)
              rw [Hbs.out] at this
              exact this)
            clear hr3
            go_wp2_with fail
            refine Hn.out.mono ?_
            rintro e w5 ⟨g, Ar, cr, rfl, hrd, hE5⟩
            have hg := hrd.base
            have hgl := hrd.lt
            have Hr5' := Lib.hid (fun W (h : Mut g w5 W) => show Row (num .i64) W (fun k => k < wr.heap.size) A5 E from (Hr5.out.below hE5).move fun k hk => h.block k (by have := hE5.size; omega) (by omega))
            have Hrr := Lib.hid (fun W (h : Mut g w5 W) => show Row (num .i64) W (fun k => k < w.heap.size) A L from ((hr.belowF (fun _ h => h) hE).belowF (B := wr.heap.size) (fun _ h => by omega) hE5).move fun k hk => h.block k (by have := hE5.size; omega) (by omega))
            have HE := Lib.hid (show ∀ W, Mut g w5 W → Below w.heap.size w W from fun W h => Below.trans (Below.trans hE (Below.mono hE5 hsz)) (h.below (by omega) (by have := hE5.size; omega)))
            clear hr hE hE5 Hr5
            go_wp2_with fail
            go_loopw [10, 55] (fun st i w' => ∃ (k : Nat) (y : RdM), k ≤ L.length ∧ i = .int .i64 k ∧ st = .int .i64 y.pos ∧ Hid (Stood L a k y) ∧ RdAt w' wr.heap.size g Ar cr y ∧ Mut g w5 w') (fun _ i _ => L.length - (intOf i).toNat)
            case atStart => exact ⟨0, ⟨P.take a, 0, 0⟩, by omega, rfl, rfl, Lib.hid (Hstart.out a), hrd, Mut.refl _ _⟩
            case round =>
              obtain ⟨k, y, hk, rfl, rfl, HS, hry, hmy⟩ := hrel
              by_cases hlt : k < L.length
              · obtain ⟨ad, hA1, hcell, hwf⟩ := (Hrr.out _ hmy).num_at' k hlt
                have hIn := Hin.out a k y HS.out hlt (by omega)
                have hOut := Hout.out a k y HS.out hlt
                have Hi := Lib.hid (rdInt_calls _ _ g Ar cr y hry)
                have hek := Hre.out k (by rw [hel]; exact hlt)
                have hyb := hry.pos
                have hyl := hry.len
                subst hA1
                by_cases hin : (preN L (k + 1)).length ≤ a
                · obtain ⟨h1, h2⟩ := hIn hin
                  rw [h1] at Hi
                  have H2 := Lib.hid h2
                  clear hIn hOut h1 h2 hwf
                  generalize (preN L (k + 1)).length = q at *
                  generalize L[k] = n at *
                  go_wp2_with fail
                  refine Hi.out.mono ?_
                  rintro e w6 ⟨rfl, hr6, hm6⟩
                  have hmm := hmy.trans hm6
                  obtain ⟨ad5, hA5, hc5, _⟩ := (Hr5'.out _ hmm).num_at' k (by rw [hel]; exact hlt)
                  rw [hek] at hc5
                  subst hA5
                  have Her := Lib.hid (rdErr_calls _ _ g Ar cr _ hr6)
                  have Hat2 := Lib.hid (rdAt_calls _ _ g Ar cr _ hr6)
                  go_wp2_with fail
                  refine Her.out.mono ?_
                  rintro e w' ⟨rfl, rfl⟩
                  go_wp2_with fail
                  refine Hat2.out.mono ?_
                  rintro e w' ⟨rfl, rfl⟩
                  go_wp2
                  exact ⟨⟨k + 1, _, hlt, by rw [Int.natCast_succ], rfl, H2, hr6, hmm⟩, meas_lt hlt⟩
                · obtain ⟨h1, h2⟩ := hOut (by omega)
                  rw [h1] at Hi
                  have H2 := Lib.hid h2
                  clear hIn hOut h1 h2 hwf
                  generalize (preN L (k + 1)).length = q at *
                  generalize L[k] = n at *
                  go_wp2_with fail
                  refine Hi.out.mono ?_
                  rintro e w6 ⟨rfl, hr6, hm6⟩
                  have hmm := hmy.trans hm6
                  obtain ⟨ad5, hA5, hc5, _⟩ := (Hr5'.out _ hmm).num_at' k (by rw [hel]; exact hlt)
                  rw [hek] at hc5
                  subst hA5
                  have Her := Lib.hid (rdErr_calls _ _ g Ar cr _ hr6)
                  have Hat2 := Lib.hid (rdAt_calls _ _ g Ar cr _ hr6)
                  go_wp2_with fail
                  refine Her.out.mono ?_
                  rintro e w' ⟨rfl, rfl⟩
                  go_wp2_with fail
                  refine Hat2.out.mono ?_
                  rintro e w' ⟨rfl, rfl⟩
                  go_wp2
                  exact ⟨⟨k + 1, ⟨y.bs, y.pos, 6⟩, hlt, by rw [Int.natCast_succ], rfl, H2, hr6, hmm⟩, meas_lt hlt⟩
              · obtain rfl : k = L.length := by omega
                have hye := Hend.out a y HS.out (by omega)
                have hne : y.err ≠ 0 := by rw [hye]; decide
                have Her := Lib.hid (rdErr_calls _ _ g Ar cr y hry)
                rw [hye] at Her
                have Hrs := Lib.hid (fun B W (h : RdAt W B g Ar cr y) => show Calls Try.prog 19 #[.pointer (some ⟨g, 0, none⟩)] W (RdOwn W B g Ar cr y []) from by
                  have := rdRest_calls W _ g Ar cr y h
                  rwa [show RestR y = y from if_neg hne, show restL y = [] from if_neg hne] at this)
                have Hby := Lib.hid (fun B W (h : RdAt W B g Ar cr y) => show Calls Try.prog 20 #[.pointer (some ⟨g, 0, none⟩)] W (RdPost W B g Ar cr y (.int .i64 0)) from by
                  have := rdByte_calls W _ g Ar cr y h
                  rwa [show ByteR y = (0, y) from if_neg hne] at this)
                have Htx := Lib.hid (fun B W (h : RdAt W B g Ar cr y) => show Calls Try.prog 21 #[.pointer (some ⟨g, 0, none⟩), .int .i64 99] W (RdPost W B g Ar cr y (.string ⟨#[]⟩)) from by
                  have := rdText_calls W _ g Ar cr y h 99 (by decide)
                  rwa [show TextR y 99 = (⟨#[]⟩, y) from if_neg hne] at this)
                have Hpp := Lib.hid (fun B W (h : RdAt W B g Ar cr y) => rdAt_calls W _ g Ar cr y h)
                by_cases hpa : y.pos = a
                · go_wp2_with fail
                  refine Her.out.mono ?_
                  rintro e w' ⟨rfl, rfl⟩
                  go_wp2_with fail
                  refine (Hrs.out _ _ hry).mono ?_
                  rintro e w7 ⟨v7, rfl, ho7, hr7, hm7⟩
                  obtain ⟨A7, c7, e7, _, _⟩ := ho7.slice
                  subst e7
                  go_wp2_with fail
                  refine (Hby.out _ _ hr7).mono ?_
                  rintro e w8 ⟨rfl, hr8, hm8⟩
                  go_wp2_with fail
                  refine (Htx.out _ _ hr8).mono ?_
                  rintro e w9 ⟨rfl, hr9, hm9⟩
                  go_wp2_with fail
                  refine (Hpp.out _ _ hr9).mono ?_
                  rintro e w' ⟨rfl, rfl⟩
                  go_wp2_with fail
                  refine (awake_calls _).mono ?_
                  rintro e w10 ⟨rfl, hE10⟩
                  have hfin := HE.out _ (((hmy.trans hm7).trans hm8).trans hm9)
                  go_wp2
                  go_ret
                  exact ⟨rfl, Below.trans hfin (Below.mono hE10 hfin.size)⟩
                · go_wp2_with fail
                  refine (Hrs.out _ _ hry).mono ?_
                  rintro e w7 ⟨v7, rfl, ho7, hr7, hm7⟩
                  obtain ⟨A7, c7, e7, _, _⟩ := ho7.slice
                  subst e7
                  go_wp2_with fail
                  refine (Hby.out _ _ hr7).mono ?_
                  rintro e w8 ⟨rfl, hr8, hm8⟩
                  go_wp2_with fail
                  refine (Htx.out _ _ hr8).mono ?_
                  rintro e w9 ⟨rfl, hr9, hm9⟩
                  go_wp2_with fail
                  refine (Hpp.out _ _ hr9).mono ?_
                  rintro e w' ⟨rfl, rfl⟩
                  go_wp2_with fail
                  refine (awake_calls _).mono ?_
                  rintro e w10 ⟨rfl, hE10⟩
                  have hfin := HE.out _ (((hmy.trans hm7).trans hm8).trans hm9)
                  go_wp2
                  go_ret
                  exact ⟨rfl, Below.trans hfin (Below.mono hE10 hfin.size)⟩
end Go.Proofs.Ytjmeoaookpnknaa
