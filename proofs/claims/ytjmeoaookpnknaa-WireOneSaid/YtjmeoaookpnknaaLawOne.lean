/- WireOne: the walk of the law. -/
import Derived.Test.YtjmeoaookpnknaaWAwake
import Derived.Test.YtjmeoaookpnknaaRegion2
import Derived.BigQuiet
set_option linter.unusedVariables false
set_option linter.unusedSimpArgs false
namespace Go.Proofs.Ytjmeoaookpnknaa
open Go Go.RowKit

theorem enc_inj {m n : Nat} (hm : m < 18446744073709551616) (hn : n < 18446744073709551616) (h : encN m = encN n) : m = n := encN_free hm hn (r := []) (s := []) (by rw [h])
theorem enc_take {m n : Nat} (hm : m < 18446744073709551616) (hn : n < 18446744073709551616) (h : (encN n).take (encN m).length = encN m) : m = n := by
  refine encN_free hm hn (r := (encN n).drop (encN m).length) (s := []) ?_
  rw [List.append_nil]
  conv => rhs; rw [← List.take_append_drop (encN m).length (encN n), h]
theorem zig_inj {i k : Int} (h : zig i = zig k) : i = k := by
  have := zag_zig i
  rw [h, zag_zig] at this
  exact this.symm
set_option maxRecDepth 100000 in
set_option maxHeartbeats 8000000 in
theorem WireOne_calls (m n i k : Int) (w : World) (hm : 0 ≤ m ∧ m ≤ 18446744073709551615) (hn : 0 ≤ n ∧ n ≤ 18446744073709551615) (hi : -9223372036854775808 ≤ i ∧ i ≤ 9223372036854775807) (hk : -9223372036854775808 ≤ k ∧ k ≤ 9223372036854775807) :
    Calls Try.prog 3 #[.int .u64 m, .int .u64 n, .int .i64 i, .int .i64 k] w fun e w' => e = .returned (.bool true) ∧ Below w.heap.size w w' := by
  obtain ⟨m, rfl⟩ := Int.eq_ofNat_of_zero_le hm.1
  obtain ⟨n, rfl⟩ := Int.eq_ofNat_of_zero_le hn.1
  have hm' : m < 18446744073709551616 := by omega
  have hn' : n < 18446744073709551616 := by omega
  have hzi := zig_lt hi
  have hzk := zig_lt hk
  have Ha := Lib.hid (fun W => Uint_calls m hm' W)
  have Hb := Lib.hid (fun W => Uint_calls n hn' W)
  have Hc := Lib.hid (fun W => Int_calls i hi W)
  have Hd := Lib.hid (fun W => Int_calls k hk W)
  have Hlen := Lib.hid (And.intro (encN_len m hm') (And.intro (encN_len n hn') (And.intro (encN_len _ hzi) (encN_len _ hzk))))
  have Hne := Lib.hid (show m ≠ n → encN m ≠ encN n ∧ (encN n).take (encN m).length ≠ encN m from fun h => ⟨fun e => h (enc_inj hm' hn' e), fun e => h (enc_take hm' hn' e)⟩)
  have Hne2 := Lib.hid (show i ≠ k → encN (zig i) ≠ encN (zig k) ∧ (encN (zig k)).take (encN (zig i)).length ≠ encN (zig i) from fun h => ⟨fun e => h (zig_inj (enc_inj hzi hzk e)), fun e => h (zig_inj (enc_take hzi hzk e))⟩)
  have Heq := Lib.hid (And.intro (show m = n → encN m = encN n from fun h => by rw [h]) (show i = k → encN (zig i) = encN (zig k) from fun h => by rw [h]))
  clear hm hn hi hk hm' hn' hzi hzk
  generalize encN m = a at *
  generalize encN n = b at *
  generalize encN (zig i) = c at *
  generalize encN (zig k) = d at *
  go_enter Try.func3, Try.ntmps3
  go_wp2_with fail
  refine (Ha.out w).mono ?_
  rintro e w1 ⟨va, rfl, hoa, hE1⟩
  go_wp2_with fail
  refine (Hb.out w1).mono ?_
  rintro e w2 ⟨vb, rfl, hob, hE2⟩
  have hE2' := Below.trans hE1 (Below.mono hE2 hE1.size)
  go_wp2_with fail
  refine (Hc.out w2).mono ?_
  rintro e w3 ⟨vc, rfl, hoc, hE3⟩
  have hE3' := Below.trans hE2' (Below.mono hE3 hE2'.size)
  go_wp2_with fail
  refine (Hd.out w3).mono ?_
  rintro e w4 ⟨vd, rfl, hod, hE4⟩
  have hE4' := Below.trans hE3' (Below.mono hE4 hE3'.size)
  have hoa := ((hoa.below hE2).below hE3).below hE4
  have hob := (hob.below hE3).below hE4
  have hoc := hoc.below hE4
  obtain ⟨Aa, ca, rfl, a1, a2, hra⟩ := hoa.sl
  obtain ⟨Ab, cb, rfl, b1, b2, hrb⟩ := hob.sl
  obtain ⟨Ac, cc, rfl, c1, c2, hrc⟩ := hoc.sl
  obtain ⟨Ad, cd, rfl, d1, d2, hrd⟩ := hod.sl
  obtain ⟨⟨l1, l2⟩, ⟨l3, l4⟩, ⟨l5, l6⟩, ⟨l7, l8⟩⟩ := Hlen.out
  have Hrow := Lib.hid (And.intro hra (And.intro hrb (And.intro hrc hrd)))
  have Hcv := Lib.hid (And.intro (conv_str (hra) 23 9 5 ca Try.underlying23 Try.underlying5 Try.underlying9) (And.intro (conv_str (hrb) 23 9 5 cb Try.underlying23 Try.underlying5 Try.underlying9) (And.intro (conv_str (hrc) 23 9 5 cc Try.underlying23 Try.underlying5 Try.underlying9) (conv_str (hrd) 23 9 5 cd Try.underlying23 Try.underlying5 Try.underlying9))))
  have hEw := Lib.hid hE4'
  clear hra hrb hrc hrd hoa hob hoc hod hE1 hE2 hE3 hE4 hE2' hE3' hE4'
  obtain ⟨hcva, hcvb, hcvc, hcvd⟩ := Hcv.out
  have hbab : (a == b) = ((m : Int) == (n : Int)) := by
    rw [Bool.eq_iff_iff, beq_iff_eq, beq_iff_eq]
    exact ⟨fun h => Decidable.byContradiction fun h2 => (Hne.out (fun e => h2 (by rw [e]))).1 h, fun h => Heq.out.1 (by omega)⟩
  have hbcd : (c == d) = (i == k) := by
    rw [Bool.eq_iff_iff, beq_iff_eq, beq_iff_eq]
    exact ⟨fun h => Decidable.byContradiction fun h2 => (Hne2.out h2).1 h, fun h => Heq.out.2 h⟩
  go_upto_region 7 with fail
  go_cut [78] (fun v wx => v = .bool false ∧ ∃ q, wx = w4.drewN q)
  case first =>
    rename_i J K' hJ hK'
    clear hbab hbcd
    by_cases hmn : m = n
    · have hb1 : (m == n) = true := by rw [beq_iff_eq]; exact hmn
      have hb2 : ((m : Int) == (n : Int)) = true := by rw [beq_iff_eq]; omega
      have hb3 : (m != n) = false := by simp [hmn]
      have hb4 : ((m : Int) != (n : Int)) = false := by simp [hmn]
      clear hmn
      go_quiet (fail)
      refine hK' _ _ (Met.intro (hJ _ _ ?_))
      repeat apply Exists.intro
      refine ⟨?rel1, rfl⟩
      exact ⟨rfl, nq, rfl⟩
    · obtain ⟨hab, hpre⟩ := Hne.out hmn
      have hbmn : (m == n) = false := by rw [beq_eq_false_iff_ne]; exact hmn
      have hbmn' : ((m : Int) == (n : Int)) = false := by rw [beq_eq_false_iff_ne]; omega
      have hb3 : (m != n) = true := by simp [hmn]
      have hb4 : ((m : Int) != (n : Int)) = true := by simp; omega
      by_cases hle : a.length ≤ b.length
      · have hlb : decide (a.length ≤ b.length) = true := decide_eq_true hle
        have hlb' : decide ((a.length : Int) ≤ (b.length : Int)) = true := decide_eq_true (by omega)
        have hsl := fun W => slice_to (P := Try.prog) 23 5 Try.underlying23 (by kernel_rfl) Ab b.length cb (a.length : Int) (by omega) (by omega) W .i64
        rw [Int.toNat_natCast] at hsl
        have hcv1 : ∀ q, (convert 23 9 (.slice Ab a.length cb)).run Try.prog (w4.drewN q) = .ok (.string ⟨(b.take a.length).toArray⟩) (w4.drewN q) := fun q => by
          have := conv_str (((Hrow.out.2.1.take a.length).drewN q)) 23 9 5 cb Try.underlying23 Try.underlying5 Try.underlying9
          rwa [List.length_take, Nat.min_eq_left hle] at this
        have hcv2 : ∀ q, (convert 23 9 (.slice Aa a.length ca)).run Try.prog (w4.drewN q) = .ok (.string ⟨a.toArray⟩) (w4.drewN q) := fun q => conv_str ((Hrow.out.1.drewN q)) 23 9 5 ca Try.underlying23 Try.underlying5 Try.underlying9
        have hbt : (b.take a.length == a) = false := by rw [beq_eq_false_iff_ne]; exact hpre
        clear Hcv hcva hcvb hcvc hcvd Hrow
        go_quiet (fail)
        refine hK' _ _ (Met.intro (hJ _ _ ?_))
        repeat apply Exists.intro
        refine ⟨?rel2, rfl⟩
        exact ⟨rfl, nq, rfl⟩
      · have hlb : decide (a.length ≤ b.length) = false := decide_eq_false hle
        have hlb' : decide ((a.length : Int) ≤ (b.length : Int)) = false := decide_eq_false (by omega)
        go_quiet (fail)
        refine hK' _ _ (Met.intro (hJ _ _ ?_))
        repeat apply Exists.intro
        refine ⟨?rel3, rfl⟩
        exact ⟨rfl, nq, rfl⟩
  case rest =>
    obtain ⟨rfl, q, rfl⟩ := hcut
    have Haw := Lib.hid (fun W => awake_calls W)
    by_cases hik : i = k
    · have hb2 : (i == k) = true := by rw [beq_iff_eq]; exact hik
      clear hbab hbcd hik
      go_wp2_with fail
      refine wp_region_steps [.eq (.int .i64 i), .eq (.int .i64 k), .eq (.bool true), .eq (.bool true), .eq undef, .eq undef, .eq undef, .eq undef, .eq undef, .eq (.bool true), .eq (.bool true), .eq undef, .eq undef, .eq undef, .eq undef, .eq undef, .eq undef, .eq undef, .eq undef, .eq (.bool true), .eq (.bool true), .eq (.bool true), .eq (.bool true), .eq (.bool true)] (by kernel_rfl) (by kernel_rfl) (all_dst (by kernel_rfl)) ?_ ?_
      · refine ⟨?_, ?_, ?_, ?_, ?_, ?_, ?_, ?_, ?_, ?_, ?_, ?_, ?_, ?_, ?_, ?_, ?_, ?_, ?_, ?_, ?_, ?_, ?_, ?_, trivial⟩
        · intro S W K hE hf hd hK
          have f2 : S.tmps.getD 2 undef = .int .i64 i := hf 2 (by kernel_rfl)
          refine want_free rfl ?_
          rw [Array.getD_eq_getD_getElem?] at f2
          go_simp
          exact hK _ _ (Ext.refl _) (fun _ => rfl)
        · intro S W K hE hf hd hK
          have f3 : S.tmps.getD 3 undef = .int .i64 k := hf 3 (by kernel_rfl)
          refine want_free rfl ?_
          rw [Array.getD_eq_getD_getElem?] at f3
          go_simp
          exact hK _ _ (Ext.refl _) (fun _ => rfl)
        · intro S W K hE hf hd hK
          have d79 : S.tmps.getD 79 undef = (.int .i64 i) := hd 0 _ rfl (by kernel_rfl)
          have d80 : S.tmps.getD 80 undef = (.int .i64 k) := hd 1 _ rfl (by kernel_rfl)
          refine want_free rfl ?_
          rw [Array.getD_eq_getD_getElem?] at d79 d80
          go_simp
          exact hK _ _ (Ext.refl _) (fun _ => rfl)
        · intro S W K hE hf hd hK
          have d81 : S.tmps.getD 81 undef = (.bool true) := hd 2 _ rfl (by kernel_rfl)
          refine want_free rfl ?_
          rw [Array.getD_eq_getD_getElem?] at d81
          go_simp
          exact hK _ _ (Ext.refl _) (fun _ => rfl)
        · intro S W K hE hf hd hK
          have f11 : S.tmps.getD 11 undef = .slice Ac c.length cc := hf 11 (by kernel_rfl)
          have d82 : S.tmps.getD 82 undef = (.bool true) := hd 3 _ rfl (by kernel_rfl)
          refine want_else (t := 82) d82 rfl rfl rfl rfl ?_
          exact fun _ => rfl
        · intro S W K hE hf hd hK
          have d83 : S.tmps.getD 83 undef = undef := hd 4 _ rfl (by kernel_rfl)
          have d82 : S.tmps.getD 82 undef = (.bool true) := hd 3 _ rfl (by kernel_rfl)
          refine want_else (t := 82) d82 rfl rfl rfl rfl ?_
          exact fun _ => rfl
        · intro S W K hE hf hd hK
          have f12 : S.tmps.getD 12 undef = .slice Ad d.length cd := hf 12 (by kernel_rfl)
          have d82 : S.tmps.getD 82 undef = (.bool true) := hd 3 _ rfl (by kernel_rfl)
          refine want_else (t := 82) d82 rfl rfl rfl rfl ?_
          exact fun _ => rfl
        · intro S W K hE hf hd hK
          have d85 : S.tmps.getD 85 undef = undef := hd 6 _ rfl (by kernel_rfl)
          have d82 : S.tmps.getD 82 undef = (.bool true) := hd 3 _ rfl (by kernel_rfl)
          refine want_else (t := 82) d82 rfl rfl rfl rfl ?_
          exact fun _ => rfl
        · intro S W K hE hf hd hK
          have d84 : S.tmps.getD 84 undef = undef := hd 5 _ rfl (by kernel_rfl)
          have d86 : S.tmps.getD 86 undef = undef := hd 7 _ rfl (by kernel_rfl)
          have d82 : S.tmps.getD 82 undef = (.bool true) := hd 3 _ rfl (by kernel_rfl)
          refine want_else (t := 82) d82 rfl rfl rfl rfl ?_
          exact fun _ => rfl
        · intro S W K hE hf hd hK
          have d82 : S.tmps.getD 82 undef = (.bool true) := hd 3 _ rfl (by kernel_rfl)
          have d87 : S.tmps.getD 87 undef = undef := hd 8 _ rfl (by kernel_rfl)
          refine want_free rfl ?_
          rw [Array.getD_eq_getD_getElem?] at d82 d87
          go_simp
          exact hK _ _ (Ext.refl _) (fun _ => rfl)
        · intro S W K hE hf hd hK
          have d88 : S.tmps.getD 88 undef = (.bool true) := hd 9 _ rfl (by kernel_rfl)
          refine want_free rfl ?_
          rw [Array.getD_eq_getD_getElem?] at d88
          go_simp
          exact hK _ _ (Ext.refl _) (fun _ => rfl)
        · intro S W K hE hf hd hK
          have f12 : S.tmps.getD 12 undef = .slice Ad d.length cd := hf 12 (by kernel_rfl)
          have d89 : S.tmps.getD 89 undef = (.bool true) := hd 10 _ rfl (by kernel_rfl)
          refine want_else (t := 89) d89 rfl rfl rfl rfl ?_
          exact fun _ => rfl
        · intro S W K hE hf hd hK
          have f11 : S.tmps.getD 11 undef = .slice Ac c.length cc := hf 11 (by kernel_rfl)
          have d89 : S.tmps.getD 89 undef = (.bool true) := hd 10 _ rfl (by kernel_rfl)
          refine want_else (t := 89) d89 rfl rfl rfl rfl ?_
          exact fun _ => rfl
        · intro S W K hE hf hd hK
          have d91 : S.tmps.getD 91 undef = undef := hd 12 _ rfl (by kernel_rfl)
          have d89 : S.tmps.getD 89 undef = (.bool true) := hd 10 _ rfl (by kernel_rfl)
          refine want_else (t := 89) d89 rfl rfl rfl rfl ?_
          exact fun _ => rfl
        · intro S W K hE hf hd hK
          have d90 : S.tmps.getD 90 undef = undef := hd 11 _ rfl (by kernel_rfl)
          have d92 : S.tmps.getD 92 undef = undef := hd 13 _ rfl (by kernel_rfl)
          have d89 : S.tmps.getD 89 undef = (.bool true) := hd 10 _ rfl (by kernel_rfl)
          refine want_else (t := 89) d89 rfl rfl rfl rfl ?_
          exact fun _ => rfl
        · intro S W K hE hf hd hK
          have d93 : S.tmps.getD 93 undef = undef := hd 14 _ rfl (by kernel_rfl)
          have d89 : S.tmps.getD 89 undef = (.bool true) := hd 10 _ rfl (by kernel_rfl)
          refine want_else (t := 89) d89 rfl rfl rfl rfl ?_
          exact fun _ => rfl
        · intro S W K hE hf hd hK
          have f11 : S.tmps.getD 11 undef = .slice Ac c.length cc := hf 11 (by kernel_rfl)
          have d89 : S.tmps.getD 89 undef = (.bool true) := hd 10 _ rfl (by kernel_rfl)
          refine want_else (t := 89) d89 rfl rfl rfl rfl ?_
          exact fun _ => rfl
        · intro S W K hE hf hd hK
          have d95 : S.tmps.getD 95 undef = undef := hd 16 _ rfl (by kernel_rfl)
          have d89 : S.tmps.getD 89 undef = (.bool true) := hd 10 _ rfl (by kernel_rfl)
          refine want_else (t := 89) d89 rfl rfl rfl rfl ?_
          exact fun _ => rfl
        · intro S W K hE hf hd hK
          have d94 : S.tmps.getD 94 undef = undef := hd 15 _ rfl (by kernel_rfl)
          have d96 : S.tmps.getD 96 undef = undef := hd 17 _ rfl (by kernel_rfl)
          have d89 : S.tmps.getD 89 undef = (.bool true) := hd 10 _ rfl (by kernel_rfl)
          refine want_else (t := 89) d89 rfl rfl rfl rfl ?_
          exact fun _ => rfl
        · intro S W K hE hf hd hK
          have d89 : S.tmps.getD 89 undef = (.bool true) := hd 10 _ rfl (by kernel_rfl)
          have d97 : S.tmps.getD 97 undef = undef := hd 18 _ rfl (by kernel_rfl)
          refine want_free rfl ?_
          rw [Array.getD_eq_getD_getElem?] at d89 d97
          go_simp
          exact hK _ _ (Ext.refl _) (fun _ => rfl)
        · intro S W K hE hf hd hK
          have d98 : S.tmps.getD 98 undef = (.bool true) := hd 19 _ rfl (by kernel_rfl)
          refine want_free rfl ?_
          rw [Array.getD_eq_getD_getElem?] at d98
          go_simp
          exact hK _ _ (Ext.refl _) (fun _ => rfl)
        · intro S W K hE hf hd hK
          have d99 : S.tmps.getD 99 undef = (.bool true) := hd 20 _ rfl (by kernel_rfl)
          refine want_then (t := 99) d99 rfl rfl rfl ?_
          rw [Array.getD_eq_getD_getElem?] at d99
          go_simp
          refine (Haw.out W).mono ?_
          rintro e W' ⟨rfl, hb⟩
          exact hK _ _ hb (fun _ => rfl)
        · intro S W K hE hf hd hK
          have d99 : S.tmps.getD 99 undef = (.bool true) := hd 20 _ rfl (by kernel_rfl)
          have d100 : S.tmps.getD 100 undef = (.bool true) := hd 21 _ rfl (by kernel_rfl)
          refine want_free rfl ?_
          rw [Array.getD_eq_getD_getElem?] at d99 d100
          go_simp
          exact hK _ _ (Ext.refl _) (fun _ => rfl)
        · intro S W K hE hf hd hK
          have d101 : S.tmps.getD 101 undef = (.bool true) := hd 22 _ rfl (by kernel_rfl)
          refine want_free rfl ?_
          rw [Array.getD_eq_getD_getElem?] at d101
          go_simp
          exact hK _ _ (Ext.refl _) (fun _ => rfl)
      · intro vs W hE hV
        have v0 : vs 0 = (.int .i64 i) := hV 0 _ rfl (fun h => by cases h)
        have v1 : vs 1 = (.int .i64 k) := hV 1 _ rfl (fun h => by cases h)
        have v2 : vs 2 = (.bool true) := hV 2 _ rfl (fun h => by cases h)
        have v3 : vs 3 = (.bool true) := hV 3 _ rfl (fun h => by cases h)
        have v4 : vs 4 = undef := hV 4 _ rfl (fun h => by cases h)
        have v5 : vs 5 = undef := hV 5 _ rfl (fun h => by cases h)
        have v6 : vs 6 = undef := hV 6 _ rfl (fun h => by cases h)
        have v7 : vs 7 = undef := hV 7 _ rfl (fun h => by cases h)
        have v8 : vs 8 = undef := hV 8 _ rfl (fun h => by cases h)
        have v9 : vs 9 = (.bool true) := hV 9 _ rfl (fun h => by cases h)
        have v10 : vs 10 = (.bool true) := hV 10 _ rfl (fun h => by cases h)
        have v11 : vs 11 = undef := hV 11 _ rfl (fun h => by cases h)
        have v12 : vs 12 = undef := hV 12 _ rfl (fun h => by cases h)
        have v13 : vs 13 = undef := hV 13 _ rfl (fun h => by cases h)
        have v14 : vs 14 = undef := hV 14 _ rfl (fun h => by cases h)
        have v15 : vs 15 = undef := hV 15 _ rfl (fun h => by cases h)
        have v16 : vs 16 = undef := hV 16 _ rfl (fun h => by cases h)
        have v17 : vs 17 = undef := hV 17 _ rfl (fun h => by cases h)
        have v18 : vs 18 = undef := hV 18 _ rfl (fun h => by cases h)
        have v19 : vs 19 = (.bool true) := hV 19 _ rfl (fun h => by cases h)
        have v20 : vs 20 = (.bool true) := hV 20 _ rfl (fun h => by cases h)
        have v21 : vs 21 = (.bool true) := hV 21 _ rfl (fun h => by cases h)
        have v22 : vs 22 = (.bool true) := hV 22 _ rfl (fun h => by cases h)
        have v23 : vs 23 = (.bool true) := hV 23 _ rfl (fun h => by cases h)
        clear hV
        set_option maxRecDepth 100000 in simp only [putAll, List.map_cons, List.map_nil, List.length_cons, List.length_nil, Nat.reduceAdd, List.range_succ, List.range_zero, List.nil_append, List.cons_append]
        set_option maxRecDepth 100000 in go_simp
        have hEf := Below.trans (blw_drewN hEw.out q) (Below.mono hE (blw_drewN hEw.out q).size)
        go_wp2
        go_ret
        exact ⟨rfl, hEf⟩
    · obtain ⟨hcd, hpre⟩ := Hne2.out hik
      have hb2 : (i == k) = false := by rw [beq_eq_false_iff_ne]; exact hik
      by_cases hle : d.length < c.length
      · have hd : decide ((d.length : Int) < (c.length : Int)) = true := decide_eq_true (by omega)
        clear hbab hbcd hik
        go_wp2_with fail
        refine wp_region_steps [.eq (.int .i64 i), .eq (.int .i64 k), .eq (.bool false), .eq (.bool false), .eq (.slice Ac c.length cc), .eq (.int .i64 c.length), .eq (.slice Ad d.length cd), .eq (.int .i64 d.length), .eq (.bool true), .eq (.bool true), .eq (.bool true), .eq undef, .eq undef, .eq undef, .eq undef, .eq undef, .eq undef, .eq undef, .eq undef, .eq (.bool true), .eq (.bool true), .eq (.bool true), .eq (.bool true), .eq (.bool true)] (by kernel_rfl) (by kernel_rfl) (all_dst (by kernel_rfl)) ?_ ?_
        · refine ⟨?_, ?_, ?_, ?_, ?_, ?_, ?_, ?_, ?_, ?_, ?_, ?_, ?_, ?_, ?_, ?_, ?_, ?_, ?_, ?_, ?_, ?_, ?_, ?_, trivial⟩
          · intro S W K hE hf hd hK
            have f2 : S.tmps.getD 2 undef = .int .i64 i := hf 2 (by kernel_rfl)
            refine want_free rfl ?_
            rw [Array.getD_eq_getD_getElem?] at f2
            go_simp
            exact hK _ _ (Ext.refl _) (fun _ => rfl)
          · intro S W K hE hf hd hK
            have f3 : S.tmps.getD 3 undef = .int .i64 k := hf 3 (by kernel_rfl)
            refine want_free rfl ?_
            rw [Array.getD_eq_getD_getElem?] at f3
            go_simp
            exact hK _ _ (Ext.refl _) (fun _ => rfl)
          · intro S W K hE hf hd hK
            have d79 : S.tmps.getD 79 undef = (.int .i64 i) := hd 0 _ rfl (by kernel_rfl)
            have d80 : S.tmps.getD 80 undef = (.int .i64 k) := hd 1 _ rfl (by kernel_rfl)
            refine want_free rfl ?_
            rw [Array.getD_eq_getD_getElem?] at d79 d80
            go_simp
            exact hK _ _ (Ext.refl _) (fun _ => rfl)
          · intro S W K hE hf hd hK
            have d81 : S.tmps.getD 81 undef = (.bool false) := hd 2 _ rfl (by kernel_rfl)
            refine want_free rfl ?_
            rw [Array.getD_eq_getD_getElem?] at d81
            go_simp
            exact hK _ _ (Ext.refl _) (fun _ => rfl)
          · intro S W K hE hf hd hK
            have f11 : S.tmps.getD 11 undef = .slice Ac c.length cc := hf 11 (by kernel_rfl)
            have d82 : S.tmps.getD 82 undef = (.bool false) := hd 3 _ rfl (by kernel_rfl)
            refine want_then (t := 82) d82 rfl rfl rfl ?_
            rw [Array.getD_eq_getD_getElem?] at f11 d82
            go_simp
            exact hK _ _ (Ext.refl _) (fun _ => rfl)
          · intro S W K hE hf hd hK
            have d83 : S.tmps.getD 83 undef = (.slice Ac c.length cc) := hd 4 _ rfl (by kernel_rfl)
            have d82 : S.tmps.getD 82 undef = (.bool false) := hd 3 _ rfl (by kernel_rfl)
            refine want_then (t := 82) d82 rfl rfl rfl ?_
            rw [Array.getD_eq_getD_getElem?] at d83 d82
            go_simp
            exact hK _ _ (Ext.refl _) (fun _ => rfl)
          · intro S W K hE hf hd hK
            have f12 : S.tmps.getD 12 undef = .slice Ad d.length cd := hf 12 (by kernel_rfl)
            have d82 : S.tmps.getD 82 undef = (.bool false) := hd 3 _ rfl (by kernel_rfl)
            refine want_then (t := 82) d82 rfl rfl rfl ?_
            rw [Array.getD_eq_getD_getElem?] at f12 d82
            go_simp
            exact hK _ _ (Ext.refl _) (fun _ => rfl)
          · intro S W K hE hf hd hK
            have d85 : S.tmps.getD 85 undef = (.slice Ad d.length cd) := hd 6 _ rfl (by kernel_rfl)
            have d82 : S.tmps.getD 82 undef = (.bool false) := hd 3 _ rfl (by kernel_rfl)
            refine want_then (t := 82) d82 rfl rfl rfl ?_
            rw [Array.getD_eq_getD_getElem?] at d85 d82
            go_simp
            exact hK _ _ (Ext.refl _) (fun _ => rfl)
          · intro S W K hE hf hd hK
            have d84 : S.tmps.getD 84 undef = (.int .i64 c.length) := hd 5 _ rfl (by kernel_rfl)
            have d86 : S.tmps.getD 86 undef = (.int .i64 d.length) := hd 7 _ rfl (by kernel_rfl)
            have d82 : S.tmps.getD 82 undef = (.bool false) := hd 3 _ rfl (by kernel_rfl)
            refine want_then (t := 82) d82 rfl rfl rfl ?_
            rw [Array.getD_eq_getD_getElem?] at d84 d86 d82
            go_simp
            exact hK _ _ (Ext.refl _) (fun _ => by first | rfl | exact congrArg Value.bool (decide_eq_true hle))
          · intro S W K hE hf hd hK
            have d82 : S.tmps.getD 82 undef = (.bool false) := hd 3 _ rfl (by kernel_rfl)
            have d87 : S.tmps.getD 87 undef = (.bool true) := hd 8 _ rfl (by kernel_rfl)
            refine want_free rfl ?_
            rw [Array.getD_eq_getD_getElem?] at d82 d87
            go_simp
            exact hK _ _ (Ext.refl _) (fun _ => rfl)
          · intro S W K hE hf hd hK
            have d88 : S.tmps.getD 88 undef = (.bool true) := hd 9 _ rfl (by kernel_rfl)
            refine want_free rfl ?_
            rw [Array.getD_eq_getD_getElem?] at d88
            go_simp
            exact hK _ _ (Ext.refl _) (fun _ => rfl)
          · intro S W K hE hf hd hK
            have f12 : S.tmps.getD 12 undef = .slice Ad d.length cd := hf 12 (by kernel_rfl)
            have d89 : S.tmps.getD 89 undef = (.bool true) := hd 10 _ rfl (by kernel_rfl)
            refine want_else (t := 89) d89 rfl rfl rfl rfl ?_
            exact fun _ => rfl
          · intro S W K hE hf hd hK
            have f11 : S.tmps.getD 11 undef = .slice Ac c.length cc := hf 11 (by kernel_rfl)
            have d89 : S.tmps.getD 89 undef = (.bool true) := hd 10 _ rfl (by kernel_rfl)
            refine want_else (t := 89) d89 rfl rfl rfl rfl ?_
            exact fun _ => rfl
          · intro S W K hE hf hd hK
            have d91 : S.tmps.getD 91 undef = undef := hd 12 _ rfl (by kernel_rfl)
            have d89 : S.tmps.getD 89 undef = (.bool true) := hd 10 _ rfl (by kernel_rfl)
            refine want_else (t := 89) d89 rfl rfl rfl rfl ?_
            exact fun _ => rfl
          · intro S W K hE hf hd hK
            have d90 : S.tmps.getD 90 undef = undef := hd 11 _ rfl (by kernel_rfl)
            have d92 : S.tmps.getD 92 undef = undef := hd 13 _ rfl (by kernel_rfl)
            have d89 : S.tmps.getD 89 undef = (.bool true) := hd 10 _ rfl (by kernel_rfl)
            refine want_else (t := 89) d89 rfl rfl rfl rfl ?_
            exact fun _ => rfl
          · intro S W K hE hf hd hK
            have d93 : S.tmps.getD 93 undef = undef := hd 14 _ rfl (by kernel_rfl)
            have d89 : S.tmps.getD 89 undef = (.bool true) := hd 10 _ rfl (by kernel_rfl)
            refine want_else (t := 89) d89 rfl rfl rfl rfl ?_
            exact fun _ => rfl
          · intro S W K hE hf hd hK
            have f11 : S.tmps.getD 11 undef = .slice Ac c.length cc := hf 11 (by kernel_rfl)
            have d89 : S.tmps.getD 89 undef = (.bool true) := hd 10 _ rfl (by kernel_rfl)
            refine want_else (t := 89) d89 rfl rfl rfl rfl ?_
            exact fun _ => rfl
          · intro S W K hE hf hd hK
            have d95 : S.tmps.getD 95 undef = undef := hd 16 _ rfl (by kernel_rfl)
            have d89 : S.tmps.getD 89 undef = (.bool true) := hd 10 _ rfl (by kernel_rfl)
            refine want_else (t := 89) d89 rfl rfl rfl rfl ?_
            exact fun _ => rfl
          · intro S W K hE hf hd hK
            have d94 : S.tmps.getD 94 undef = undef := hd 15 _ rfl (by kernel_rfl)
            have d96 : S.tmps.getD 96 undef = undef := hd 17 _ rfl (by kernel_rfl)
            have d89 : S.tmps.getD 89 undef = (.bool true) := hd 10 _ rfl (by kernel_rfl)
            refine want_else (t := 89) d89 rfl rfl rfl rfl ?_
            exact fun _ => rfl
          · intro S W K hE hf hd hK
            have d89 : S.tmps.getD 89 undef = (.bool true) := hd 10 _ rfl (by kernel_rfl)
            have d97 : S.tmps.getD 97 undef = undef := hd 18 _ rfl (by kernel_rfl)
            refine want_free rfl ?_
            rw [Array.getD_eq_getD_getElem?] at d89 d97
            go_simp
            exact hK _ _ (Ext.refl _) (fun _ => rfl)
          · intro S W K hE hf hd hK
            have d98 : S.tmps.getD 98 undef = (.bool true) := hd 19 _ rfl (by kernel_rfl)
            refine want_free rfl ?_
            rw [Array.getD_eq_getD_getElem?] at d98
            go_simp
            exact hK _ _ (Ext.refl _) (fun _ => rfl)
          · intro S W K hE hf hd hK
            have d99 : S.tmps.getD 99 undef = (.bool true) := hd 20 _ rfl (by kernel_rfl)
            refine want_then (t := 99) d99 rfl rfl rfl ?_
            rw [Array.getD_eq_getD_getElem?] at d99
            go_simp
            refine (Haw.out W).mono ?_
            rintro e W' ⟨rfl, hb⟩
            exact hK _ _ hb (fun _ => rfl)
          · intro S W K hE hf hd hK
            have d99 : S.tmps.getD 99 undef = (.bool true) := hd 20 _ rfl (by kernel_rfl)
            have d100 : S.tmps.getD 100 undef = (.bool true) := hd 21 _ rfl (by kernel_rfl)
            refine want_free rfl ?_
            rw [Array.getD_eq_getD_getElem?] at d99 d100
            go_simp
            exact hK _ _ (Ext.refl _) (fun _ => rfl)
          · intro S W K hE hf hd hK
            have d101 : S.tmps.getD 101 undef = (.bool true) := hd 22 _ rfl (by kernel_rfl)
            refine want_free rfl ?_
            rw [Array.getD_eq_getD_getElem?] at d101
            go_simp
            exact hK _ _ (Ext.refl _) (fun _ => rfl)
        · intro vs W hE hV
          have v0 : vs 0 = (.int .i64 i) := hV 0 _ rfl (fun h => by cases h)
          have v1 : vs 1 = (.int .i64 k) := hV 1 _ rfl (fun h => by cases h)
          have v2 : vs 2 = (.bool false) := hV 2 _ rfl (fun h => by cases h)
          have v3 : vs 3 = (.bool false) := hV 3 _ rfl (fun h => by cases h)
          have v4 : vs 4 = (.slice Ac c.length cc) := hV 4 _ rfl (fun h => by cases h)
          have v5 : vs 5 = (.int .i64 c.length) := hV 5 _ rfl (fun h => by cases h)
          have v6 : vs 6 = (.slice Ad d.length cd) := hV 6 _ rfl (fun h => by cases h)
          have v7 : vs 7 = (.int .i64 d.length) := hV 7 _ rfl (fun h => by cases h)
          have v8 : vs 8 = (.bool true) := hV 8 _ rfl (fun h => by cases h)
          have v9 : vs 9 = (.bool true) := hV 9 _ rfl (fun h => by cases h)
          have v10 : vs 10 = (.bool true) := hV 10 _ rfl (fun h => by cases h)
          have v11 : vs 11 = undef := hV 11 _ rfl (fun h => by cases h)
          have v12 : vs 12 = undef := hV 12 _ rfl (fun h => by cases h)
          have v13 : vs 13 = undef := hV 13 _ rfl (fun h => by cases h)
          have v14 : vs 14 = undef := hV 14 _ rfl (fun h => by cases h)
          have v15 : vs 15 = undef := hV 15 _ rfl (fun h => by cases h)
          have v16 : vs 16 = undef := hV 16 _ rfl (fun h => by cases h)
          have v17 : vs 17 = undef := hV 17 _ rfl (fun h => by cases h)
          have v18 : vs 18 = undef := hV 18 _ rfl (fun h => by cases h)
          have v19 : vs 19 = (.bool true) := hV 19 _ rfl (fun h => by cases h)
          have v20 : vs 20 = (.bool true) := hV 20 _ rfl (fun h => by cases h)
          have v21 : vs 21 = (.bool true) := hV 21 _ rfl (fun h => by cases h)
          have v22 : vs 22 = (.bool true) := hV 22 _ rfl (fun h => by cases h)
          have v23 : vs 23 = (.bool true) := hV 23 _ rfl (fun h => by cases h)
          clear hV
          set_option maxRecDepth 100000 in simp only [putAll, List.map_cons, List.map_nil, List.length_cons, List.length_nil, Nat.reduceAdd, List.range_succ, List.range_zero, List.nil_append, List.cons_append]
          set_option maxRecDepth 100000 in go_simp
          have hEf := Below.trans (blw_drewN hEw.out q) (Below.mono hE (blw_drewN hEw.out q).size)
          go_wp2
          go_ret
          exact ⟨rfl, hEf⟩
      · have hd : decide ((d.length : Int) < (c.length : Int)) = false := decide_eq_false (by omega)
        have hsl := fun W => slice_to (P := Try.prog) 23 5 Try.underlying23 (by kernel_rfl) Ad d.length cd (c.length : Int) (by omega) (by omega) W .i64
        rw [Int.toNat_natCast] at hsl
        have Hcv1 := Lib.hid (fun W (h : Ext (w4.drewN q) W) => show (convert 23 9 (.slice Ad c.length cd)).run Try.prog W = .ok (.string ⟨(d.take c.length).toArray⟩) W from by
          have := conv_str ((((Hrow.out.2.2.2.take c.length).drewN q).below h)) 23 9 5 cd Try.underlying23 Try.underlying5 Try.underlying9
          rwa [List.length_take, Nat.min_eq_left (by omega)] at this)
        have Hcv2 := Lib.hid (fun W (h : Ext (w4.drewN q) W) => show (convert 23 9 (.slice Ac c.length cc)).run Try.prog W = .ok (.string ⟨c.toArray⟩) W from conv_str (((Hrow.out.2.2.1.drewN q).below h)) 23 9 5 cc Try.underlying23 Try.underlying5 Try.underlying9)
        have hbt : (d.take c.length == c) = false := by rw [beq_eq_false_iff_ne]; exact hpre
        clear hbab hbcd hik Hcv hcva hcvb hcvc hcvd
        go_wp2_with fail
        refine wp_region_steps [.eq (.int .i64 i), .eq (.int .i64 k), .eq (.bool false), .eq (.bool false), .eq (.slice Ac c.length cc), .eq (.int .i64 c.length), .eq (.slice Ad d.length cd), .eq (.int .i64 d.length), .eq (.bool false), .eq (.bool false), .eq (.bool false), .eq (.slice Ad d.length cd), .eq (.slice Ac c.length cc), .eq (.int .i64 c.length), .eq (.slice Ad c.length cd), .eq (.string ⟨(d.take c.length).toArray⟩), .eq (.slice Ac c.length cc), .eq (.string ⟨c.toArray⟩), .eq (.bool true), .eq (.bool true), .eq (.bool true), .eq (.bool true), .eq (.bool true), .eq (.bool true)] (by kernel_rfl) (by kernel_rfl) (all_dst (by kernel_rfl)) ?_ ?_
        · refine ⟨?_, ?_, ?_, ?_, ?_, ?_, ?_, ?_, ?_, ?_, ?_, ?_, ?_, ?_, ?_, ?_, ?_, ?_, ?_, ?_, ?_, ?_, ?_, ?_, trivial⟩
          · intro S W K hE hf hd hK
            have f2 : S.tmps.getD 2 undef = .int .i64 i := hf 2 (by kernel_rfl)
            refine want_free rfl ?_
            rw [Array.getD_eq_getD_getElem?] at f2
            go_simp
            exact hK _ _ (Ext.refl _) (fun _ => rfl)
          · intro S W K hE hf hd hK
            have f3 : S.tmps.getD 3 undef = .int .i64 k := hf 3 (by kernel_rfl)
            refine want_free rfl ?_
            rw [Array.getD_eq_getD_getElem?] at f3
            go_simp
            exact hK _ _ (Ext.refl _) (fun _ => rfl)
          · intro S W K hE hf hd hK
            have d79 : S.tmps.getD 79 undef = (.int .i64 i) := hd 0 _ rfl (by kernel_rfl)
            have d80 : S.tmps.getD 80 undef = (.int .i64 k) := hd 1 _ rfl (by kernel_rfl)
            refine want_free rfl ?_
            rw [Array.getD_eq_getD_getElem?] at d79 d80
            go_simp
            exact hK _ _ (Ext.refl _) (fun _ => rfl)
          · intro S W K hE hf hd hK
            have d81 : S.tmps.getD 81 undef = (.bool false) := hd 2 _ rfl (by kernel_rfl)
            refine want_free rfl ?_
            rw [Array.getD_eq_getD_getElem?] at d81
            go_simp
            exact hK _ _ (Ext.refl _) (fun _ => rfl)
          · intro S W K hE hf hd hK
            have f11 : S.tmps.getD 11 undef = .slice Ac c.length cc := hf 11 (by kernel_rfl)
            have d82 : S.tmps.getD 82 undef = (.bool false) := hd 3 _ rfl (by kernel_rfl)
            refine want_then (t := 82) d82 rfl rfl rfl ?_
            rw [Array.getD_eq_getD_getElem?] at f11 d82
            go_simp
            exact hK _ _ (Ext.refl _) (fun _ => rfl)
          · intro S W K hE hf hd hK
            have d83 : S.tmps.getD 83 undef = (.slice Ac c.length cc) := hd 4 _ rfl (by kernel_rfl)
            have d82 : S.tmps.getD 82 undef = (.bool false) := hd 3 _ rfl (by kernel_rfl)
            refine want_then (t := 82) d82 rfl rfl rfl ?_
            rw [Array.getD_eq_getD_getElem?] at d83 d82
            go_simp
            exact hK _ _ (Ext.refl _) (fun _ => rfl)
          · intro S W K hE hf hd hK
            have f12 : S.tmps.getD 12 undef = .slice Ad d.length cd := hf 12 (by kernel_rfl)
            have d82 : S.tmps.getD 82 undef = (.bool false) := hd 3 _ rfl (by kernel_rfl)
            refine want_then (t := 82) d82 rfl rfl rfl ?_
            rw [Array.getD_eq_getD_getElem?] at f12 d82
            go_simp
            exact hK _ _ (Ext.refl _) (fun _ => rfl)
          · intro S W K hE hf hd hK
            have d85 : S.tmps.getD 85 undef = (.slice Ad d.length cd) := hd 6 _ rfl (by kernel_rfl)
            have d82 : S.tmps.getD 82 undef = (.bool false) := hd 3 _ rfl (by kernel_rfl)
            refine want_then (t := 82) d82 rfl rfl rfl ?_
            rw [Array.getD_eq_getD_getElem?] at d85 d82
            go_simp
            exact hK _ _ (Ext.refl _) (fun _ => rfl)
          · intro S W K hE hf hd hK
            have d84 : S.tmps.getD 84 undef = (.int .i64 c.length) := hd 5 _ rfl (by kernel_rfl)
            have d86 : S.tmps.getD 86 undef = (.int .i64 d.length) := hd 7 _ rfl (by kernel_rfl)
            have d82 : S.tmps.getD 82 undef = (.bool false) := hd 3 _ rfl (by kernel_rfl)
            refine want_then (t := 82) d82 rfl rfl rfl ?_
            rw [Array.getD_eq_getD_getElem?] at d84 d86 d82
            go_simp
            exact hK _ _ (Ext.refl _) (fun _ => by first | rfl | exact congrArg Value.bool (decide_eq_false hle))
          · intro S W K hE hf hd hK
            have d82 : S.tmps.getD 82 undef = (.bool false) := hd 3 _ rfl (by kernel_rfl)
            have d87 : S.tmps.getD 87 undef = (.bool false) := hd 8 _ rfl (by kernel_rfl)
            refine want_free rfl ?_
            rw [Array.getD_eq_getD_getElem?] at d82 d87
            go_simp
            exact hK _ _ (Ext.refl _) (fun _ => rfl)
          · intro S W K hE hf hd hK
            have d88 : S.tmps.getD 88 undef = (.bool false) := hd 9 _ rfl (by kernel_rfl)
            refine want_free rfl ?_
            rw [Array.getD_eq_getD_getElem?] at d88
            go_simp
            exact hK _ _ (Ext.refl _) (fun _ => rfl)
          · intro S W K hE hf hd hK
            have f12 : S.tmps.getD 12 undef = .slice Ad d.length cd := hf 12 (by kernel_rfl)
            have d89 : S.tmps.getD 89 undef = (.bool false) := hd 10 _ rfl (by kernel_rfl)
            refine want_then (t := 89) d89 rfl rfl rfl ?_
            rw [Array.getD_eq_getD_getElem?] at f12 d89
            go_simp
            exact hK _ _ (Ext.refl _) (fun _ => rfl)
          · intro S W K hE hf hd hK
            have f11 : S.tmps.getD 11 undef = .slice Ac c.length cc := hf 11 (by kernel_rfl)
            have d89 : S.tmps.getD 89 undef = (.bool false) := hd 10 _ rfl (by kernel_rfl)
            refine want_then (t := 89) d89 rfl rfl rfl ?_
            rw [Array.getD_eq_getD_getElem?] at f11 d89
            go_simp
            exact hK _ _ (Ext.refl _) (fun _ => rfl)
          · intro S W K hE hf hd hK
            have d91 : S.tmps.getD 91 undef = (.slice Ac c.length cc) := hd 12 _ rfl (by kernel_rfl)
            have d89 : S.tmps.getD 89 undef = (.bool false) := hd 10 _ rfl (by kernel_rfl)
            refine want_then (t := 89) d89 rfl rfl rfl ?_
            rw [Array.getD_eq_getD_getElem?] at d91 d89
            go_simp
            exact hK _ _ (Ext.refl _) (fun _ => rfl)
          · intro S W K hE hf hd hK
            have d90 : S.tmps.getD 90 undef = (.slice Ad d.length cd) := hd 11 _ rfl (by kernel_rfl)
            have d92 : S.tmps.getD 92 undef = (.int .i64 c.length) := hd 13 _ rfl (by kernel_rfl)
            have d89 : S.tmps.getD 89 undef = (.bool false) := hd 10 _ rfl (by kernel_rfl)
            refine want_then (t := 89) d89 rfl rfl rfl ?_
            rw [Array.getD_eq_getD_getElem?] at d90 d92 d89
            go_simp
            exact hK _ _ (Ext.refl _) (fun _ => rfl)
          · intro S W K hE hf hd hK
            have d93 : S.tmps.getD 93 undef = (.slice Ad c.length cd) := hd 14 _ rfl (by kernel_rfl)
            have d89 : S.tmps.getD 89 undef = (.bool false) := hd 10 _ rfl (by kernel_rfl)
            refine want_then (t := 89) d89 rfl rfl rfl ?_
            rw [Array.getD_eq_getD_getElem?] at d93 d89
            have hcv := Hcv1.out W hE
            go_simp
            exact hK _ _ (Ext.refl _) (fun _ => rfl)
          · intro S W K hE hf hd hK
            have f11 : S.tmps.getD 11 undef = .slice Ac c.length cc := hf 11 (by kernel_rfl)
            have d89 : S.tmps.getD 89 undef = (.bool false) := hd 10 _ rfl (by kernel_rfl)
            refine want_then (t := 89) d89 rfl rfl rfl ?_
            rw [Array.getD_eq_getD_getElem?] at f11 d89
            go_simp
            exact hK _ _ (Ext.refl _) (fun _ => rfl)
          · intro S W K hE hf hd hK
            have d95 : S.tmps.getD 95 undef = (.slice Ac c.length cc) := hd 16 _ rfl (by kernel_rfl)
            have d89 : S.tmps.getD 89 undef = (.bool false) := hd 10 _ rfl (by kernel_rfl)
            refine want_then (t := 89) d89 rfl rfl rfl ?_
            rw [Array.getD_eq_getD_getElem?] at d95 d89
            have hcv := Hcv2.out W hE
            go_simp
            exact hK _ _ (Ext.refl _) (fun _ => rfl)
          · intro S W K hE hf hd hK
            have d94 : S.tmps.getD 94 undef = (.string ⟨(d.take c.length).toArray⟩) := hd 15 _ rfl (by kernel_rfl)
            have d96 : S.tmps.getD 96 undef = (.string ⟨c.toArray⟩) := hd 17 _ rfl (by kernel_rfl)
            have d89 : S.tmps.getD 89 undef = (.bool false) := hd 10 _ rfl (by kernel_rfl)
            refine want_then (t := 89) d89 rfl rfl rfl ?_
            rw [Array.getD_eq_getD_getElem?] at d94 d96 d89
            go_simp
            exact hK _ _ (Ext.refl _) (fun _ => by first | rfl | simp [hbt])
          · intro S W K hE hf hd hK
            have d89 : S.tmps.getD 89 undef = (.bool false) := hd 10 _ rfl (by kernel_rfl)
            have d97 : S.tmps.getD 97 undef = (.bool true) := hd 18 _ rfl (by kernel_rfl)
            refine want_free rfl ?_
            rw [Array.getD_eq_getD_getElem?] at d89 d97
            go_simp
            exact hK _ _ (Ext.refl _) (fun _ => rfl)
          · intro S W K hE hf hd hK
            have d98 : S.tmps.getD 98 undef = (.bool true) := hd 19 _ rfl (by kernel_rfl)
            refine want_free rfl ?_
            rw [Array.getD_eq_getD_getElem?] at d98
            go_simp
            exact hK _ _ (Ext.refl _) (fun _ => rfl)
          · intro S W K hE hf hd hK
            have d99 : S.tmps.getD 99 undef = (.bool true) := hd 20 _ rfl (by kernel_rfl)
            refine want_then (t := 99) d99 rfl rfl rfl ?_
            rw [Array.getD_eq_getD_getElem?] at d99
            go_simp
            refine (Haw.out W).mono ?_
            rintro e W' ⟨rfl, hb⟩
            exact hK _ _ hb (fun _ => rfl)
          · intro S W K hE hf hd hK
            have d99 : S.tmps.getD 99 undef = (.bool true) := hd 20 _ rfl (by kernel_rfl)
            have d100 : S.tmps.getD 100 undef = (.bool true) := hd 21 _ rfl (by kernel_rfl)
            refine want_free rfl ?_
            rw [Array.getD_eq_getD_getElem?] at d99 d100
            go_simp
            exact hK _ _ (Ext.refl _) (fun _ => rfl)
          · intro S W K hE hf hd hK
            have d101 : S.tmps.getD 101 undef = (.bool true) := hd 22 _ rfl (by kernel_rfl)
            refine want_free rfl ?_
            rw [Array.getD_eq_getD_getElem?] at d101
            go_simp
            exact hK _ _ (Ext.refl _) (fun _ => rfl)
        · intro vs W hE hV
          have v0 : vs 0 = (.int .i64 i) := hV 0 _ rfl (fun h => by cases h)
          have v1 : vs 1 = (.int .i64 k) := hV 1 _ rfl (fun h => by cases h)
          have v2 : vs 2 = (.bool false) := hV 2 _ rfl (fun h => by cases h)
          have v3 : vs 3 = (.bool false) := hV 3 _ rfl (fun h => by cases h)
          have v4 : vs 4 = (.slice Ac c.length cc) := hV 4 _ rfl (fun h => by cases h)
          have v5 : vs 5 = (.int .i64 c.length) := hV 5 _ rfl (fun h => by cases h)
          have v6 : vs 6 = (.slice Ad d.length cd) := hV 6 _ rfl (fun h => by cases h)
          have v7 : vs 7 = (.int .i64 d.length) := hV 7 _ rfl (fun h => by cases h)
          have v8 : vs 8 = (.bool false) := hV 8 _ rfl (fun h => by cases h)
          have v9 : vs 9 = (.bool false) := hV 9 _ rfl (fun h => by cases h)
          have v10 : vs 10 = (.bool false) := hV 10 _ rfl (fun h => by cases h)
          have v11 : vs 11 = (.slice Ad d.length cd) := hV 11 _ rfl (fun h => by cases h)
          have v12 : vs 12 = (.slice Ac c.length cc) := hV 12 _ rfl (fun h => by cases h)
          have v13 : vs 13 = (.int .i64 c.length) := hV 13 _ rfl (fun h => by cases h)
          have v14 : vs 14 = (.slice Ad c.length cd) := hV 14 _ rfl (fun h => by cases h)
          have v15 : vs 15 = (.string ⟨(d.take c.length).toArray⟩) := hV 15 _ rfl (fun h => by cases h)
          have v16 : vs 16 = (.slice Ac c.length cc) := hV 16 _ rfl (fun h => by cases h)
          have v17 : vs 17 = (.string ⟨c.toArray⟩) := hV 17 _ rfl (fun h => by cases h)
          have v18 : vs 18 = (.bool true) := hV 18 _ rfl (fun h => by cases h)
          have v19 : vs 19 = (.bool true) := hV 19 _ rfl (fun h => by cases h)
          have v20 : vs 20 = (.bool true) := hV 20 _ rfl (fun h => by cases h)
          have v21 : vs 21 = (.bool true) := hV 21 _ rfl (fun h => by cases h)
          have v22 : vs 22 = (.bool true) := hV 22 _ rfl (fun h => by cases h)
          have v23 : vs 23 = (.bool true) := hV 23 _ rfl (fun h => by cases h)
          clear hV
          set_option maxRecDepth 100000 in simp only [putAll, List.map_cons, List.map_nil, List.length_cons, List.length_nil, Nat.reduceAdd, List.range_succ, List.range_zero, List.nil_append, List.cons_append]
          set_option maxRecDepth 100000 in go_simp
          have hEf := Below.trans (blw_drewN hEw.out q) (Below.mono hE (blw_drewN hEw.out q).size)
          go_wp2
          go_ret
          exact ⟨rfl, hEf⟩
end Go.Proofs.Ytjmeoaookpnknaa