/- FrameSeals: the walk of the law. -/
import Derived.Test.YtkmjcjhnfpkakaaLawSums
import Derived.Test.YtkmjcjhnfpkakaaRef02b
import Derived.Test.YtkmjcjhnfpkakaaBase3
set_option linter.unusedVariables false
set_option linter.unusedSimpArgs false
namespace Go.Proofs.Ytkmjcjhnfpkakaa
open Go Go.RowKit

theorem first_sealB {b : List UInt8} (hb : b.length ≤ 262144) (r : List UInt8) : firstO (sealB b ++ r) = some b := by
  have hlen : (sealB b).length = b.length + 8 := by simp [sealB, le32_length]; omega
  have hn : num32 (sealB b ++ r) = b.length := by
    unfold sealB
    rw [List.append_assoc, List.append_assoc]
    exact num32_le32 _ (by omega) _
  have ht : (sealB b ++ r).take (b.length + 4) = le32 b.length ++ b := by
    have : (le32 b.length ++ b).length = b.length + 4 := by rw [List.length_append, le32_length]; omega
    unfold sealB
    rw [List.append_assoc, ← this, List.take_left]
  have hd : (sealB b ++ r).drop (b.length + 4) = le32 (crcSum (le32 b.length ++ b)).toNat ++ r := by
    have : (le32 b.length ++ b).length = b.length + 4 := by rw [List.length_append, le32_length]; omega
    unfold sealB
    rw [List.append_assoc, ← this, List.drop_left]
  unfold firstO
  rw [hn, ht, hd, num32_le32 _ (crcSum _).toNat_lt, if_pos ⟨by rw [List.length_append]; omega, hb, by rw [List.length_append]; omega, rfl⟩]
  congr 1
theorem open_seal {b : List UInt8} (hb : b.length ≤ 262144) : openO (sealO b) = some b := by
  have hlen : (sealB b).length = b.length + 8 := by simp [sealB, le32_length]; omega
  have h := first_sealB hb []
  rw [List.append_nil] at h
  unfold openO sealO
  rw [if_pos hb, h]
  simp only
  rw [if_pos hlen.symm]
theorem seal_open {l b : List UInt8} (h : openO l = some b) : sealO b = l := by
  unfold openO at h
  cases hf : firstO l with
  | none => rw [hf] at h; cases h
  | some b' =>
    rw [hf] at h
    simp only at h
    split at h
    · rename_i hl
      injection h with h
      subst h
      obtain ⟨h1, h2, h3⟩ := firstO_le hf
      have hb : firstO l = some ((l.take (num32 l + 4)).drop 4) := by
        unfold firstO at hf ⊢
        split at hf
        · rename_i hc; rw [if_pos hc]
        · cases hf
      have hc : num32 (l.drop (num32 l + 4)) = (crcSum (l.take (num32 l + 4))).toNat := by
        unfold firstO at hf
        split at hf
        · rename_i hc; exact hc.2.2.2
        · cases hf
      have := (first_seal l (by omega) (by omega) (by omega)).2 hc
      rw [hf] at hb
      injection hb with hb
      rw [← hb, List.take_of_length_le (by omega)] at this
      exact this
    · cases h
theorem seal_len (b : List UInt8) : (sealO b).length ≤ b.length + 8 := by
  unfold sealO
  split
  · simp [sealB, le32_length]; omega
  · simp

set_option maxHeartbeats 8000000 in
theorem FrameSeals_calls (A Ao : Option Addr) (c co : Nat) (ls : List (List UInt8)) (other : List UInt8) (w : World) (hn : ls.length ≤ maxLen) (hr : Row (slk kb) w (fun k => k < w.heap.size) A ls)
    (hco : other.length ≤ co) (hmo : co ≤ maxLen) (hro : Row kb w (fun k => k < w.heap.size) Ao other) :
    Calls Try.prog 4 #[.slice A ls.length c, .slice Ao other.length co] w fun e w' => e = .returned (.bool true) ∧ Below w.heap.size w w' := by
  go_enter Try.func4, Try.ntmps4
  go_wp2_with fail
  refine (few_calls A c ls w hn hr).mono ?_
  rintro e w1 ⟨v1, rfl, ho1, HB⟩
  have hL1 := fewL_len ls
  have hL2 := fewL_each ls
  have hL3 := few_flat ls
  generalize fewL ls = L at *
  obtain ⟨A1, c1, e1, hc1, hm1, hr1⟩ := ho1.lt
  subst e1
  clear ho1
  go_wp2_with fail
  refine (all_calls A1 c1 L w1 hL1 hL2 hr1).mono ?_
  rintro e w2 ⟨v2, rfl, ho2, hb2⟩
  have HB := HB.trans (hb2.mono HB.size)
  have hr1 := (hr1.below hb2).lt
  generalize hq : L.flatten = b at *
  have Hq := Lib.hid hq
  clear hq
  have Hos := Lib.hid (open_seal (b := b) (by omega))
  have hsl := seal_len b
  obtain ⟨A2, c2, e1, hc2, hm2⟩ := ho2.slice
  subst e1
  have hw2 := HB.size
  have hat2 := Lib.hid (fun k (hk : (Value.slice A2 b.length c2).ownBlock = some k) => (ho2.at hk).2)
  go_wp2_with fail
  refine (Seal_calls A1 c1 L w2 (by simp only [maxLen]; omega) (fun x hx => by have := hL2 x hx; omega) hr1).mono ?_
  rintro e w3 ⟨v3, rfl, ho3, hb3⟩
  rw [Hq.out] at ho3
  obtain ⟨s, hs⟩ : ∃ s, s = sealO b := ⟨_, rfl⟩
  rw [← hs] at hsl Hos ho3
  have Hs := Lib.hid hs
  clear hs
  obtain ⟨A3, c3, e1, hc3, hm3⟩ := ho3.slice
  subst e1
  have hat3 := Lib.hid (fun k (hk : (Value.slice A3 s.length c3).ownBlock = some k) => (ho3.at hk).2)
  have HB3 := HB.trans (hb3.mono HB.size)
  have ho2 := ho2.below hb3
  obtain ⟨_, _, e1, _, _, hr2⟩ := ho2.lt
  cases e1
  obtain ⟨_, _, e1, _, _, hr3⟩ := ho3.lt
  cases e1
  go_upto_region 4 with fail
  refine wp_region_steps [.eq (.slice A3 s.length c3), .eq (.string ⟨s.toArray⟩), .eq (.slice A2 b.length c2), .sl kb s, .eq (.string ⟨s.toArray⟩), .eq (.bool false)] (by kernel_rfl) (by kernel_rfl) (all_dst (by kernel_rfl)) ?_ ?_
  · refine ⟨?_, ?_, ?_, ?_, ?_, ?_, trivial⟩
    · intro S W K hE hf hd hK
      have f6 : S.tmps.getD 6 undef = .slice A3 s.length c3 := hf 6 (by kernel_rfl)
      refine want_free rfl ?_
      rw [Array.getD_eq_getD_getElem?] at f6
      go_simp
      exact hK _ _ (Ext.refl _) (fun _ => rfl)
    · intro S W K hE hf hd hK
      have d20 : S.tmps.getD 20 undef = (.slice A3 s.length c3) := hd 0 _ rfl (by kernel_rfl)
      refine want_free rfl ?_
      rw [Array.getD_eq_getD_getElem?] at d20
      have hcv := conv_str (hr3.below hE) 24 9 5 c3 Try.underlying24 Try.underlying5 Try.underlying9
      go_simp
      exact hK _ _ (Ext.refl _) (fun _ => rfl)
    · intro S W K hE hf hd hK
      have f5 : S.tmps.getD 5 undef = .slice A2 b.length c2 := hf 5 (by kernel_rfl)
      refine want_free rfl ?_
      rw [Array.getD_eq_getD_getElem?] at f5
      go_simp
      exact hK _ _ (Ext.refl _) (fun _ => rfl)
    · intro S W K hE hf hd hK
      have d22 : S.tmps.getD 22 undef = (.slice A2 b.length c2) := hd 2 _ rfl (by kernel_rfl)
      refine want_free rfl ?_
      rw [Array.getD_eq_getD_getElem?] at d22
      go_simp
      refine (RSeal_calls A2 c2 b W (by omega) hc2 hm2 ((hr2.below hE).lt)).mono ?_
      rintro e W' ⟨v, rfl, hov, hb⟩
      rw [← Hs.out] at hov
      exact hK _ _ hb (fun _ => IsSl.of hov.sl)
    · intro S W K hE hf hd hK
      obtain ⟨A23, c23, d23, l23, m23, r23⟩ := (show IsSl kb s (S.tmps.getD 23 undef) W from hd 3 _ rfl (by kernel_rfl))
      refine want_free rfl ?_
      rw [Array.getD_eq_getD_getElem?] at d23
      have hcv := conv_str (r23) 24 9 5 c23 Try.underlying24 Try.underlying5 Try.underlying9
      go_simp
      exact hK _ _ (Ext.refl _) (fun _ => rfl)
    · intro S W K hE hf hd hK
      have d21 : S.tmps.getD 21 undef = (.string ⟨s.toArray⟩) := hd 1 _ rfl (by kernel_rfl)
      have d24 : S.tmps.getD 24 undef = (.string ⟨s.toArray⟩) := hd 4 _ rfl (by kernel_rfl)
      refine want_free rfl ?_
      rw [Array.getD_eq_getD_getElem?] at d21 d24
      go_simp
      exact hK _ _ (Ext.refl _) (fun _ => rfl)
  · intro vs W hE hV
    have v0 : vs 0 = (.slice A3 s.length c3) := hV 0 _ rfl (fun h => by cases h)
    have v1 : vs 1 = (.string ⟨s.toArray⟩) := hV 1 _ rfl (fun h => by cases h)
    have v2 : vs 2 = (.slice A2 b.length c2) := hV 2 _ rfl (fun h => by cases h)
    have v3 := hV 3 _ rfl (fun h => by cases h)
    have v4 : vs 4 = (.string ⟨s.toArray⟩) := hV 4 _ rfl (fun h => by cases h)
    have v5 : vs 5 = (.bool false) := hV 5 _ rfl (fun h => by cases h)
    clear hV
    set_option maxRecDepth 100000 in simp only [putAll, List.map_cons, List.map_nil, List.length_cons, List.length_nil, Nat.reduceAdd, List.range_succ, List.range_zero, List.nil_append, List.cons_append]
    set_option maxRecDepth 100000 in go_simp
    have HB := HB3.trans (hE.mono HB3.size)
    have ho2 := ho2.below hE
    have ho3 := ho3.below hE
    have hr2 := hr2.below hE
    have hr3 := hr3.below hE
    clear v0 v1 v2 v3 v4 v5
    go_wp2_with fail
    refine (Open_calls A3 c3 s _ W (by omega) hc3 hm3 hr3).mono ?_
    rintro e w5 ⟨vx, rfl, hox, hb5⟩
    rw [Hos.out] at hox ⊢
    simp only [Option.isSome, Option.getD] at hox ⊢
    obtain ⟨Ax, cx, e1, hcx, hmx⟩ := hox.slice
    subst e1
    obtain ⟨_, _, e1, _, _, hrx⟩ := hox.lt
    cases e1
    have HB5 := HB.trans (hb5.mono HB.size)
    have ho2 := ho2.below hb5
    have ho3 := ho3.below hb5
    have hr2 := hr2.below hb5
    have Hcv := Lib.hid (And.intro (conv_str (hrx) 24 9 5 cx Try.underlying24 Try.underlying5 Try.underlying9) (conv_str (hr2) 24 9 5 c2 Try.underlying24 Try.underlying5 Try.underlying9))
    obtain ⟨hcv1, hcv2⟩ := Hcv.out
    have hsz : w3.heap.size ≤ W.heap.size := hE.size
    clear hr1 hr2 hr3 hrx
    go_wp2
    clear hcv1 hcv2
    go_loopw [42] (fun i w' => ∃ (k : Nat) (xs : List UInt8), k ≤ s.length ∧ i = .int .i64 k ∧ xs.length = s.length ∧ Own kb 5 w' w2.heap.size (fun _ => False) (.slice A3 s.length c3) xs ∧ Own kb 5 w' W.heap.size (fun _ => False) (.slice Ax b.length cx) b ∧ Own kb 5 w' w1.heap.size (fun _ => False) (.slice A2 b.length c2) b ∧ Below w.heap.size w w') (fun i _ => s.length - (intOf i).toNat)
    case atStart => exact ⟨0, s, by omega, rfl, rfl, ho3, hox, ho2, HB5⟩
    case round =>
      clear ho3 hox ho2 HB5
      obtain ⟨k, xs, hk, rfl, hxl, ho3, hox, ho2, HB5⟩ := hrel
      by_cases hlt : k < s.length
      · obtain ⟨g, c', u, e1, hg, hc, _, hf, hset⟩ := ho3.put1 rfl k (by omega)
        rw [hxl] at e1
        cases e1
        have hst := hset 0 (.int .u8 0) (fun _ _ => ⟨rfl, trivial⟩) (fun _ h => h.elim)
        have hgx := hat3.out g rfl
        have hox2 := hox.set_ne (p := ⟨g, k, none⟩) (u := .int .u8 0) (fun j hj => by have := (hox.at hj).1; simp; omega) (fun _ h => h.elim)
        have ho22 := ho2.set_ne (p := ⟨g, k, none⟩) (u := .int .u8 0) (fun j hj => by have := hat2.out j hj; simp; omega) (fun _ h => h.elim)
        have HB6 := HB5.setCell (p := ⟨g, k, none⟩) (by simp; omega) (.int .u8 0)
        clear ho3 hox ho2 HB5
        go_wp2
        go_roundw
        case rel => exact ⟨k + 1, xs.set k 0, hlt, by go_num, by rw [List.length_set]; exact hxl, hst, hox2, ho22, HB6⟩
        case measure => simp [intOf]; omega
      · obtain ⟨_, _, e1, _, _, hrx⟩ := hox.lt
        cases e1
        obtain ⟨_, _, e1, _, _, hr2⟩ := ho2.lt
        cases e1
        have Hcv := Lib.hid (And.intro (conv_str (hrx) 24 9 5 cx Try.underlying24 Try.underlying5 Try.underlying9) (conv_str (hr2) 24 9 5 c2 Try.underlying24 Try.underlying5 Try.underlying9))
        obtain ⟨hcv1, hcv2⟩ := Hcv.out
        clear ho3 hox ho2 hrx hr2
        have hrow := (hro.belowF (fun _ h => h) HB5).lt
        have hsh := short_calls Ao co other _ 300 wr (by omega) hco hmo hrow
        have Hsh := Lib.hid hsh
        clear hsh
        go_wp2_with fail
        clear hcv1 hcv2
        refine Hsh.out.mono ?_
        rintro e w6 ⟨⟨vo, rfl, hso⟩, rfl⟩
        have hotl : (other.take 300).length ≤ 300 := by rw [List.length_take]; omega
        obtain ⟨A6, c6, e1, hc6, hm6, hr6⟩ := hso
        subst e1
        have Hso := Lib.hid (fun y (h : openO (other.take 300) = some y) => seal_open h)
        have Hox := Lib.hid (show openO (other.take 300) = match firstO (other.take 300) with | some b => if b.length + 8 = (other.take 300).length then some b else none | none => none from rfl)
        have Hfl := Lib.hid (fun y (h : firstO (other.take 300) = some y) => (firstO_le h).1)
        generalize other.take 300 = t at *
        go_wp2_with fail
        refine (Open_calls A6 c6 t _ wr (by omega) hc6 hm6 hr6).mono ?_
        rintro e w7 ⟨vy, rfl, hoy, hb7⟩
        have hr6 := (hr6.below hb7).lt
        have HB7 := HB5.trans (hb7.mono HB5.size)
        go_wp2_with fail
        refine (RFirst_calls A6 c6 t w7 (by omega) hc6 hm6 hr6).mono ?_
        rintro e w8 ⟨vf, rfl, hof, hb8⟩
        have hr6 := (hr6.below hb8).lt
        have HB8 := HB7.trans (hb8.mono HB7.size)
        have hoy := hoy.below hb8
        cases hfo : firstO t with
        | none =>
          have ho : openO t = none := by rw [Hox.out, hfo]
          rw [ho] at hoy ⊢
          rw [hfo] at hof
          simp only [Option.isSome, Option.getD] at hoy hof ⊢
          obtain ⟨Ay, cy, e1, _, _⟩ := hoy.slice
          subst e1
          simp only [List.length_nil] at *
          clear hfo ho
          go_upto_region 19 with fail
          refine wp_region_steps [.eq (.bool false), .eq (.int .i64 0), .eq (.bool false), .eq (.bool false), .eq undef, .eq undef, .eq undef, .eq undef, .eq (.bool false), .eq (.bool false), .eq (.bool false), .eq (.bool false), .eq (.bool false), .eq undef, .eq undef, .eq undef, .eq undef, .eq undef, .eq undef, .eq undef, .eq undef, .eq undef, .eq undef, .eq undef, .eq undef, .eq undef, .eq undef, .eq (.bool false), .eq (.bool false), .eq (.bool false), .eq (.bool false), .eq (.bool true), .eq (.bool true), .eq (.slice Ay 0 cy), .eq (.int .i64 0), .eq (.bool false), .eq (.bool false), .eq (.bool false)] (by kernel_rfl) (by kernel_rfl) (all_dst (by kernel_rfl)) ?_ ?_
          · refine ⟨?_, ?_, ?_, ?_, ?_, ?_, ?_, ?_, ?_, ?_, ?_, ?_, ?_, ?_, ?_, ?_, ?_, ?_, ?_, ?_, ?_, ?_, ?_, ?_, ?_, ?_, ?_, ?_, ?_, ?_, ?_, ?_, ?_, ?_, ?_, ?_, ?_, ?_, trivial⟩
            · intro S W K hE hf hd hK
              have f11 : S.tmps.getD 11 undef = .bool false := hf 11 (by kernel_rfl)
              refine want_free rfl ?_
              rw [Array.getD_eq_getD_getElem?] at f11
              go_simp
              exact hK _ _ (Ext.refl _) (fun _ => rfl)
            · intro S W K hE hf hd hK
              have f13 : S.tmps.getD 13 undef = .int .i64 0 := hf 13 (by kernel_rfl)
              refine want_free rfl ?_
              rw [Array.getD_eq_getD_getElem?] at f13
              go_simp
              exact hK _ _ (Ext.refl _) (fun _ => rfl)
            · intro S W K hE hf hd hK
              have d67 : S.tmps.getD 67 undef = (.int .i64 0) := hd 1 _ rfl (by kernel_rfl)
              refine want_free rfl ?_
              rw [Array.getD_eq_getD_getElem?] at d67
              go_simp
              exact hK _ _ (Ext.refl _) (fun _ => rfl)
            · intro S W K hE hf hd hK
              have d68 : S.tmps.getD 68 undef = (.bool false) := hd 2 _ rfl (by kernel_rfl)
              refine want_free rfl ?_
              rw [Array.getD_eq_getD_getElem?] at d68
              go_simp
              exact hK _ _ (Ext.refl _) (fun _ => rfl)
            · intro S W K hE hf hd hK
              have f13 : S.tmps.getD 13 undef = .int .i64 0 := hf 13 (by kernel_rfl)
              have d69 : S.tmps.getD 69 undef = (.bool false) := hd 3 _ rfl (by kernel_rfl)
              refine want_else (t := 69) d69 rfl rfl rfl rfl ?_
              exact fun _ => rfl
            · intro S W K hE hf hd hK
              have f1 : S.tmps.getD 1 undef = .slice A6 t.length c6 := hf 1 (by kernel_rfl)
              have d69 : S.tmps.getD 69 undef = (.bool false) := hd 3 _ rfl (by kernel_rfl)
              refine want_else (t := 69) d69 rfl rfl rfl rfl ?_
              exact fun _ => rfl
            · intro S W K hE hf hd hK
              have d71 : S.tmps.getD 71 undef = undef := hd 5 _ rfl (by kernel_rfl)
              have d69 : S.tmps.getD 69 undef = (.bool false) := hd 3 _ rfl (by kernel_rfl)
              refine want_else (t := 69) d69 rfl rfl rfl rfl ?_
              exact fun _ => rfl
            · intro S W K hE hf hd hK
              have d70 : S.tmps.getD 70 undef = undef := hd 4 _ rfl (by kernel_rfl)
              have d72 : S.tmps.getD 72 undef = undef := hd 6 _ rfl (by kernel_rfl)
              have d69 : S.tmps.getD 69 undef = (.bool false) := hd 3 _ rfl (by kernel_rfl)
              refine want_else (t := 69) d69 rfl rfl rfl rfl ?_
              exact fun _ => rfl
            · intro S W K hE hf hd hK
              have d69 : S.tmps.getD 69 undef = (.bool false) := hd 3 _ rfl (by kernel_rfl)
              have d73 : S.tmps.getD 73 undef = undef := hd 7 _ rfl (by kernel_rfl)
              refine want_free rfl ?_
              rw [Array.getD_eq_getD_getElem?] at d69 d73
              go_simp
              exact hK _ _ (Ext.refl _) (fun _ => rfl)
            · intro S W K hE hf hd hK
              have d66 : S.tmps.getD 66 undef = (.bool false) := hd 0 _ rfl (by kernel_rfl)
              have d74 : S.tmps.getD 74 undef = (.bool false) := hd 8 _ rfl (by kernel_rfl)
              refine want_free rfl ?_
              rw [Array.getD_eq_getD_getElem?] at d66 d74
              go_simp
              exact hK _ _ (Ext.refl _) (fun _ => rfl)
            · intro S W K hE hf hd hK
              have d75 : S.tmps.getD 75 undef = (.bool false) := hd 9 _ rfl (by kernel_rfl)
              refine want_free rfl ?_
              rw [Array.getD_eq_getD_getElem?] at d75
              go_simp
              exact hK _ _ (Ext.refl _) (fun _ => rfl)
            · intro S W K hE hf hd hK
              have f11 : S.tmps.getD 11 undef = .bool false := hf 11 (by kernel_rfl)
              have d76 : S.tmps.getD 76 undef = (.bool false) := hd 10 _ rfl (by kernel_rfl)
              refine want_then (t := 76) d76 rfl rfl rfl ?_
              rw [Array.getD_eq_getD_getElem?] at f11 d76
              go_simp
              exact hK _ _ (Ext.refl _) (fun _ => rfl)
            · intro S W K hE hf hd hK
              have d77 : S.tmps.getD 77 undef = (.bool false) := hd 11 _ rfl (by kernel_rfl)
              have d76 : S.tmps.getD 76 undef = (.bool false) := hd 10 _ rfl (by kernel_rfl)
              refine want_then (t := 76) d76 rfl rfl rfl ?_
              rw [Array.getD_eq_getD_getElem?] at d77 d76
              go_simp
              exact hK _ _ (Ext.refl _) (fun _ => rfl)
            · intro S W K hE hf hd hK
              have f10 : S.tmps.getD 10 undef = .slice Ay 0 cy := hf 10 (by kernel_rfl)
              have d78 : S.tmps.getD 78 undef = (.bool false) := hd 12 _ rfl (by kernel_rfl)
              refine want_else (t := 78) d78 rfl rfl rfl rfl ?_
              exact fun _ => rfl
            · intro S W K hE hf hd hK
              have d79 : S.tmps.getD 79 undef = undef := hd 13 _ rfl (by kernel_rfl)
              have d78 : S.tmps.getD 78 undef = (.bool false) := hd 12 _ rfl (by kernel_rfl)
              refine want_else (t := 78) d78 rfl rfl rfl rfl ?_
              exact fun _ => rfl
            · intro S W K hE hf hd hK
              have d78 : S.tmps.getD 78 undef = (.bool false) := hd 12 _ rfl (by kernel_rfl)
              refine want_else (t := 78) d78 rfl rfl rfl rfl ?_
              exact fun _ => rfl
            · intro S W K hE hf hd hK
              have d81 : S.tmps.getD 81 undef = undef := hd 15 _ rfl (by kernel_rfl)
              have d78 : S.tmps.getD 78 undef = (.bool false) := hd 12 _ rfl (by kernel_rfl)
              refine want_else (t := 78) d78 rfl rfl rfl rfl ?_
              exact fun _ => rfl
            · intro S W K hE hf hd hK
              have d80 : S.tmps.getD 80 undef = undef := hd 14 _ rfl (by kernel_rfl)
              have d82 : S.tmps.getD 82 undef = undef := hd 16 _ rfl (by kernel_rfl)
              have d78 : S.tmps.getD 78 undef = (.bool false) := hd 12 _ rfl (by kernel_rfl)
              refine want_else (t := 78) d78 rfl rfl rfl rfl ?_
              exact fun _ => rfl
            · intro S W K hE hf hd hK
              have d83 : S.tmps.getD 83 undef = undef := hd 17 _ rfl (by kernel_rfl)
              have d78 : S.tmps.getD 78 undef = (.bool false) := hd 12 _ rfl (by kernel_rfl)
              refine want_else (t := 78) d78 rfl rfl rfl rfl ?_
              exact fun _ => rfl
            · intro S W K hE hf hd hK
              have f10 : S.tmps.getD 10 undef = .slice Ay 0 cy := hf 10 (by kernel_rfl)
              have d84 : S.tmps.getD 84 undef = undef := hd 18 _ rfl (by kernel_rfl)
              refine want_undef (t := 84) d84 rfl rfl rfl ?_
              exact fun _ => rfl
            · intro S W K hE hf hd hK
              have d85 : S.tmps.getD 85 undef = undef := hd 19 _ rfl (by kernel_rfl)
              have d84 : S.tmps.getD 84 undef = undef := hd 18 _ rfl (by kernel_rfl)
              refine want_undef (t := 84) d84 rfl rfl rfl ?_
              exact fun _ => rfl
            · intro S W K hE hf hd hK
              have d86 : S.tmps.getD 86 undef = undef := hd 20 _ rfl (by kernel_rfl)
              have d84 : S.tmps.getD 84 undef = undef := hd 18 _ rfl (by kernel_rfl)
              refine want_undef (t := 84) d84 rfl rfl rfl ?_
              exact fun _ => rfl
            · intro S W K hE hf hd hK
              have d87 : S.tmps.getD 87 undef = undef := hd 21 _ rfl (by kernel_rfl)
              have d84 : S.tmps.getD 84 undef = undef := hd 18 _ rfl (by kernel_rfl)
              refine want_undef (t := 84) d84 rfl rfl rfl ?_
              exact fun _ => rfl
            · intro S W K hE hf hd hK
              have f1 : S.tmps.getD 1 undef = .slice A6 t.length c6 := hf 1 (by kernel_rfl)
              have d84 : S.tmps.getD 84 undef = undef := hd 18 _ rfl (by kernel_rfl)
              refine want_undef (t := 84) d84 rfl rfl rfl ?_
              exact fun _ => rfl
            · intro S W K hE hf hd hK
              have d89 : S.tmps.getD 89 undef = undef := hd 23 _ rfl (by kernel_rfl)
              have d84 : S.tmps.getD 84 undef = undef := hd 18 _ rfl (by kernel_rfl)
              refine want_undef (t := 84) d84 rfl rfl rfl ?_
              exact fun _ => rfl
            · intro S W K hE hf hd hK
              have d88 : S.tmps.getD 88 undef = undef := hd 22 _ rfl (by kernel_rfl)
              have d90 : S.tmps.getD 90 undef = undef := hd 24 _ rfl (by kernel_rfl)
              have d84 : S.tmps.getD 84 undef = undef := hd 18 _ rfl (by kernel_rfl)
              refine want_undef (t := 84) d84 rfl rfl rfl ?_
              exact fun _ => rfl
            · intro S W K hE hf hd hK
              have d84 : S.tmps.getD 84 undef = undef := hd 18 _ rfl (by kernel_rfl)
              have d91 : S.tmps.getD 91 undef = undef := hd 25 _ rfl (by kernel_rfl)
              have d78 : S.tmps.getD 78 undef = (.bool false) := hd 12 _ rfl (by kernel_rfl)
              refine want_else (t := 78) d78 rfl rfl rfl rfl ?_
              exact fun _ => rfl
            · intro S W K hE hf hd hK
              have d78 : S.tmps.getD 78 undef = (.bool false) := hd 12 _ rfl (by kernel_rfl)
              have d92 : S.tmps.getD 92 undef = undef := hd 26 _ rfl (by kernel_rfl)
              have d76 : S.tmps.getD 76 undef = (.bool false) := hd 10 _ rfl (by kernel_rfl)
              refine want_then (t := 76) d76 rfl rfl rfl ?_
              rw [Array.getD_eq_getD_getElem?] at d78 d92 d76
              go_simp
              exact hK _ _ (Ext.refl _) (fun _ => rfl)
            · intro S W K hE hf hd hK
              have d76 : S.tmps.getD 76 undef = (.bool false) := hd 10 _ rfl (by kernel_rfl)
              have d93 : S.tmps.getD 93 undef = (.bool false) := hd 27 _ rfl (by kernel_rfl)
              refine want_free rfl ?_
              rw [Array.getD_eq_getD_getElem?] at d76 d93
              go_simp
              exact hK _ _ (Ext.refl _) (fun _ => rfl)
            · intro S W K hE hf hd hK
              have d94 : S.tmps.getD 94 undef = (.bool false) := hd 28 _ rfl (by kernel_rfl)
              refine want_free rfl ?_
              rw [Array.getD_eq_getD_getElem?] at d94
              go_simp
              exact hK _ _ (Ext.refl _) (fun _ => rfl)
            · intro S W K hE hf hd hK
              have f11 : S.tmps.getD 11 undef = .bool false := hf 11 (by kernel_rfl)
              have d95 : S.tmps.getD 95 undef = (.bool false) := hd 29 _ rfl (by kernel_rfl)
              refine want_then (t := 95) d95 rfl rfl rfl ?_
              rw [Array.getD_eq_getD_getElem?] at f11 d95
              go_simp
              exact hK _ _ (Ext.refl _) (fun _ => rfl)
            · intro S W K hE hf hd hK
              have d96 : S.tmps.getD 96 undef = (.bool false) := hd 30 _ rfl (by kernel_rfl)
              have d95 : S.tmps.getD 95 undef = (.bool false) := hd 29 _ rfl (by kernel_rfl)
              refine want_then (t := 95) d95 rfl rfl rfl ?_
              rw [Array.getD_eq_getD_getElem?] at d96 d95
              go_simp
              exact hK _ _ (Ext.refl _) (fun _ => rfl)
            · intro S W K hE hf hd hK
              have d97 : S.tmps.getD 97 undef = (.bool true) := hd 31 _ rfl (by kernel_rfl)
              have d95 : S.tmps.getD 95 undef = (.bool false) := hd 29 _ rfl (by kernel_rfl)
              refine want_then (t := 95) d95 rfl rfl rfl ?_
              rw [Array.getD_eq_getD_getElem?] at d97 d95
              go_simp
              exact hK _ _ (Ext.refl _) (fun _ => rfl)
            · intro S W K hE hf hd hK
              have f10 : S.tmps.getD 10 undef = .slice Ay 0 cy := hf 10 (by kernel_rfl)
              have d98 : S.tmps.getD 98 undef = (.bool true) := hd 32 _ rfl (by kernel_rfl)
              refine want_then (t := 98) d98 rfl rfl rfl ?_
              rw [Array.getD_eq_getD_getElem?] at f10 d98
              go_simp
              exact hK _ _ (Ext.refl _) (fun _ => rfl)
            · intro S W K hE hf hd hK
              have d99 : S.tmps.getD 99 undef = (.slice Ay 0 cy) := hd 33 _ rfl (by kernel_rfl)
              have d98 : S.tmps.getD 98 undef = (.bool true) := hd 32 _ rfl (by kernel_rfl)
              refine want_then (t := 98) d98 rfl rfl rfl ?_
              rw [Array.getD_eq_getD_getElem?] at d99 d98
              go_simp
              exact hK _ _ (Ext.refl _) (fun _ => rfl)
            · intro S W K hE hf hd hK
              have d100 : S.tmps.getD 100 undef = (.int .i64 0) := hd 34 _ rfl (by kernel_rfl)
              have d98 : S.tmps.getD 98 undef = (.bool true) := hd 32 _ rfl (by kernel_rfl)
              refine want_then (t := 98) d98 rfl rfl rfl ?_
              rw [Array.getD_eq_getD_getElem?] at d100 d98
              go_simp
              exact hK _ _ (Ext.refl _) (fun _ => rfl)
            · intro S W K hE hf hd hK
              have d98 : S.tmps.getD 98 undef = (.bool true) := hd 32 _ rfl (by kernel_rfl)
              have d101 : S.tmps.getD 101 undef = (.bool false) := hd 35 _ rfl (by kernel_rfl)
              have d95 : S.tmps.getD 95 undef = (.bool false) := hd 29 _ rfl (by kernel_rfl)
              refine want_then (t := 95) d95 rfl rfl rfl ?_
              rw [Array.getD_eq_getD_getElem?] at d98 d101 d95
              go_simp
              exact hK _ _ (Ext.refl _) (fun _ => rfl)
            · intro S W K hE hf hd hK
              have d95 : S.tmps.getD 95 undef = (.bool false) := hd 29 _ rfl (by kernel_rfl)
              have d102 : S.tmps.getD 102 undef = (.bool false) := hd 36 _ rfl (by kernel_rfl)
              refine want_free rfl ?_
              rw [Array.getD_eq_getD_getElem?] at d95 d102
              go_simp
              exact hK _ _ (Ext.refl _) (fun _ => rfl)
          · intro vs W hE hV
            have v0 : vs 0 = (.bool false) := hV 0 _ rfl (fun h => by cases h)
            have v1 : vs 1 = (.int .i64 0) := hV 1 _ rfl (fun h => by cases h)
            have v2 : vs 2 = (.bool false) := hV 2 _ rfl (fun h => by cases h)
            have v3 : vs 3 = (.bool false) := hV 3 _ rfl (fun h => by cases h)
            have v4 : vs 4 = undef := hV 4 _ rfl (fun h => by cases h)
            have v5 : vs 5 = undef := hV 5 _ rfl (fun h => by cases h)
            have v6 : vs 6 = undef := hV 6 _ rfl (fun h => by cases h)
            have v7 : vs 7 = undef := hV 7 _ rfl (fun h => by cases h)
            have v8 : vs 8 = (.bool false) := hV 8 _ rfl (fun h => by cases h)
            have v9 : vs 9 = (.bool false) := hV 9 _ rfl (fun h => by cases h)
            have v10 : vs 10 = (.bool false) := hV 10 _ rfl (fun h => by cases h)
            have v11 : vs 11 = (.bool false) := hV 11 _ rfl (fun h => by cases h)
            have v12 : vs 12 = (.bool false) := hV 12 _ rfl (fun h => by cases h)
            have v13 : vs 13 = undef := hV 13 _ rfl (fun h => by cases h)
            have v14 : vs 14 = undef := hV 14 _ rfl (fun h => by cases h)
            have v15 : vs 15 = undef := hV 15 _ rfl (fun h => by cases h)
            have v16 : vs 16 = undef := hV 16 _ rfl (fun h => by cases h)
            have v17 : vs 17 = undef := hV 17 _ rfl (fun h => by cases h)
            have v18 : vs 18 = undef := hV 18 _ rfl (fun h => by cases h)
            have v19 : vs 19 = undef := hV 19 _ rfl (fun h => by cases h)
            have v20 : vs 20 = undef := hV 20 _ rfl (fun h => by cases h)
            have v21 : vs 21 = undef := hV 21 _ rfl (fun h => by cases h)
            have v22 : vs 22 = undef := hV 22 _ rfl (fun h => by cases h)
            have v23 : vs 23 = undef := hV 23 _ rfl (fun h => by cases h)
            have v24 : vs 24 = undef := hV 24 _ rfl (fun h => by cases h)
            have v25 : vs 25 = undef := hV 25 _ rfl (fun h => by cases h)
            have v26 : vs 26 = undef := hV 26 _ rfl (fun h => by cases h)
            have v27 : vs 27 = (.bool false) := hV 27 _ rfl (fun h => by cases h)
            have v28 : vs 28 = (.bool false) := hV 28 _ rfl (fun h => by cases h)
            have v29 : vs 29 = (.bool false) := hV 29 _ rfl (fun h => by cases h)
            have v30 : vs 30 = (.bool false) := hV 30 _ rfl (fun h => by cases h)
            have v31 : vs 31 = (.bool true) := hV 31 _ rfl (fun h => by cases h)
            have v32 : vs 32 = (.bool true) := hV 32 _ rfl (fun h => by cases h)
            have v33 : vs 33 = (.slice Ay 0 cy) := hV 33 _ rfl (fun h => by cases h)
            have v34 : vs 34 = (.int .i64 0) := hV 34 _ rfl (fun h => by cases h)
            have v35 : vs 35 = (.bool false) := hV 35 _ rfl (fun h => by cases h)
            have v36 : vs 36 = (.bool false) := hV 36 _ rfl (fun h => by cases h)
            have v37 : vs 37 = (.bool false) := hV 37 _ rfl (fun h => by cases h)
            clear hV
            set_option maxRecDepth 100000 in simp only [putAll, List.map_cons, List.map_nil, List.length_cons, List.length_nil, Nat.reduceAdd, List.range_succ, List.range_zero, List.nil_append, List.cons_append]
            set_option maxRecDepth 100000 in go_simp
            have HB9 := HB8.trans (hE.mono HB8.size)
            clear v0 v1 v2 v3 v4 v5 v6 v7 v8 v9 v10 v11 v12 v13 v14 v15 v16 v17 v18 v19 v20 v21 v22 v23 v24 v25 v26 v27 v28 v29 v30 v31 v32 v33 v34 v35 v36 v37
            go_wp2_with fail
            refine (awake_calls W).mono ?_
            rintro e w9 ⟨rfl, hb9⟩
            go_wp2
            go_ret
            exact ⟨rfl, HB9.trans (hb9.mono HB9.size)⟩
        | some y =>
          have hyl := Hfl.out y hfo
          rw [hfo] at hof
          by_cases hw : y.length + 8 = t.length
          · have ho : openO t = some y := by rw [Hox.out, hfo]; exact if_pos hw
            have Hsy := Lib.hid (Hso.out y ho)
            rw [ho] at hoy ⊢
            simp only [Option.isSome, Option.getD] at hoy hof ⊢
            obtain ⟨Ay, cy, e1, hcy, hmy⟩ := hoy.slice
            subst e1
            obtain ⟨_, _, e1, _, _, hry⟩ := hoy.lt
            cases e1
            obtain ⟨Af, cf, e1, hcf, hmf⟩ := hof.slice
            subst e1
            obtain ⟨_, _, e1, _, _, hrf⟩ := hof.lt
            cases e1
            clear hfo ho
            have Hw := Lib.hid hw
            clear hw
            go_upto_region 19 with fail
            refine wp_region_steps [.eq (.bool true), .eq (.int .i64 ((y.length : Int) + 8)), .eq (.bool true), .eq (.bool true), .eq (.int .i64 ((y.length : Int) + 8)), .eq (.slice A6 t.length c6), .eq (.int .i64 t.length), .eq (.bool true), .eq (.bool true), .eq (.bool false), .eq (.bool false), .eq (.bool true), .eq (.bool true), .eq (.slice Ay y.length cy), .eq (.string ⟨y.toArray⟩), .eq (.slice Af y.length cf), .eq (.string ⟨y.toArray⟩), .eq (.bool false), .eq (.bool false), .eq (.slice Ay y.length cy), .box (.slice Ay y.length cy), .sl kb t, .eq (.string ⟨t.toArray⟩), .eq (.slice A6 t.length c6), .eq (.string ⟨t.toArray⟩), .eq (.bool false), .eq (.bool false), .eq (.bool false), .eq (.bool false), .eq (.bool false), .eq (.bool true), .eq (.bool false), .eq (.bool false), .eq undef, .eq undef, .eq undef, .eq (.bool false), .eq (.bool false)] (by kernel_rfl) (by kernel_rfl) (all_dst (by kernel_rfl)) ?_ ?_
            · refine ⟨?_, ?_, ?_, ?_, ?_, ?_, ?_, ?_, ?_, ?_, ?_, ?_, ?_, ?_, ?_, ?_, ?_, ?_, ?_, ?_, ?_, ?_, ?_, ?_, ?_, ?_, ?_, ?_, ?_, ?_, ?_, ?_, ?_, ?_, ?_, ?_, ?_, ?_, trivial⟩
              · intro S W K hE hf hd hK
                have f11 : S.tmps.getD 11 undef = .bool true := hf 11 (by kernel_rfl)
                refine want_free rfl ?_
                rw [Array.getD_eq_getD_getElem?] at f11
                go_simp
                exact hK _ _ (Ext.refl _) (fun _ => rfl)
              · intro S W K hE hf hd hK
                have f13 : S.tmps.getD 13 undef = .int .i64 ((y.length : Int) + 8) := hf 13 (by kernel_rfl)
                refine want_free rfl ?_
                rw [Array.getD_eq_getD_getElem?] at f13
                go_simp
                exact hK _ _ (Ext.refl _) (fun _ => rfl)
              · intro S W K hE hf hd hK
                have d67 : S.tmps.getD 67 undef = (.int .i64 ((y.length : Int) + 8)) := hd 1 _ rfl (by kernel_rfl)
                refine want_free rfl ?_
                rw [Array.getD_eq_getD_getElem?] at d67
                have hh : (0 : Int) < (y.length : Int) + 8 := by omega
                go_simp
                exact hK _ _ (Ext.refl _) (fun _ => rfl)
              · intro S W K hE hf hd hK
                have d68 : S.tmps.getD 68 undef = (.bool true) := hd 2 _ rfl (by kernel_rfl)
                refine want_free rfl ?_
                rw [Array.getD_eq_getD_getElem?] at d68
                go_simp
                exact hK _ _ (Ext.refl _) (fun _ => rfl)
              · intro S W K hE hf hd hK
                have f13 : S.tmps.getD 13 undef = .int .i64 ((y.length : Int) + 8) := hf 13 (by kernel_rfl)
                have d69 : S.tmps.getD 69 undef = (.bool true) := hd 3 _ rfl (by kernel_rfl)
                refine want_then (t := 69) d69 rfl rfl rfl ?_
                rw [Array.getD_eq_getD_getElem?] at f13 d69
                go_simp
                exact hK _ _ (Ext.refl _) (fun _ => rfl)
              · intro S W K hE hf hd hK
                have f1 : S.tmps.getD 1 undef = .slice A6 t.length c6 := hf 1 (by kernel_rfl)
                have d69 : S.tmps.getD 69 undef = (.bool true) := hd 3 _ rfl (by kernel_rfl)
                refine want_then (t := 69) d69 rfl rfl rfl ?_
                rw [Array.getD_eq_getD_getElem?] at f1 d69
                go_simp
                exact hK _ _ (Ext.refl _) (fun _ => rfl)
              · intro S W K hE hf hd hK
                have d71 : S.tmps.getD 71 undef = (.slice A6 t.length c6) := hd 5 _ rfl (by kernel_rfl)
                have d69 : S.tmps.getD 69 undef = (.bool true) := hd 3 _ rfl (by kernel_rfl)
                refine want_then (t := 69) d69 rfl rfl rfl ?_
                rw [Array.getD_eq_getD_getElem?] at d71 d69
                go_simp
                exact hK _ _ (Ext.refl _) (fun _ => rfl)
              · intro S W K hE hf hd hK
                have d70 : S.tmps.getD 70 undef = (.int .i64 ((y.length : Int) + 8)) := hd 4 _ rfl (by kernel_rfl)
                have d72 : S.tmps.getD 72 undef = (.int .i64 t.length) := hd 6 _ rfl (by kernel_rfl)
                have d69 : S.tmps.getD 69 undef = (.bool true) := hd 3 _ rfl (by kernel_rfl)
                refine want_then (t := 69) d69 rfl rfl rfl ?_
                rw [Array.getD_eq_getD_getElem?] at d70 d72 d69
                have hh : ((y.length : Int) + 8 == (t.length : Int)) = true := by have := Hw.out; simp; omega
                go_simp
                exact hK _ _ (Ext.refl _) (fun _ => rfl)
              · intro S W K hE hf hd hK
                have d69 : S.tmps.getD 69 undef = (.bool true) := hd 3 _ rfl (by kernel_rfl)
                have d73 : S.tmps.getD 73 undef = (.bool true) := hd 7 _ rfl (by kernel_rfl)
                refine want_free rfl ?_
                rw [Array.getD_eq_getD_getElem?] at d69 d73
                go_simp
                exact hK _ _ (Ext.refl _) (fun _ => rfl)
              · intro S W K hE hf hd hK
                have d66 : S.tmps.getD 66 undef = (.bool true) := hd 0 _ rfl (by kernel_rfl)
                have d74 : S.tmps.getD 74 undef = (.bool true) := hd 8 _ rfl (by kernel_rfl)
                refine want_free rfl ?_
                rw [Array.getD_eq_getD_getElem?] at d66 d74
                go_simp
                exact hK _ _ (Ext.refl _) (fun _ => rfl)
              · intro S W K hE hf hd hK
                have d75 : S.tmps.getD 75 undef = (.bool false) := hd 9 _ rfl (by kernel_rfl)
                refine want_free rfl ?_
                rw [Array.getD_eq_getD_getElem?] at d75
                go_simp
                exact hK _ _ (Ext.refl _) (fun _ => rfl)
              · intro S W K hE hf hd hK
                have f11 : S.tmps.getD 11 undef = .bool true := hf 11 (by kernel_rfl)
                have d76 : S.tmps.getD 76 undef = (.bool false) := hd 10 _ rfl (by kernel_rfl)
                refine want_then (t := 76) d76 rfl rfl rfl ?_
                rw [Array.getD_eq_getD_getElem?] at f11 d76
                go_simp
                exact hK _ _ (Ext.refl _) (fun _ => rfl)
              · intro S W K hE hf hd hK
                have d77 : S.tmps.getD 77 undef = (.bool true) := hd 11 _ rfl (by kernel_rfl)
                have d76 : S.tmps.getD 76 undef = (.bool false) := hd 10 _ rfl (by kernel_rfl)
                refine want_then (t := 76) d76 rfl rfl rfl ?_
                rw [Array.getD_eq_getD_getElem?] at d77 d76
                go_simp
                exact hK _ _ (Ext.refl _) (fun _ => rfl)
              · intro S W K hE hf hd hK
                have f10 : S.tmps.getD 10 undef = .slice Ay y.length cy := hf 10 (by kernel_rfl)
                have d78 : S.tmps.getD 78 undef = (.bool true) := hd 12 _ rfl (by kernel_rfl)
                refine want_then (t := 78) d78 rfl rfl rfl ?_
                rw [Array.getD_eq_getD_getElem?] at f10 d78
                go_simp
                exact hK _ _ (Ext.refl _) (fun _ => rfl)
              · intro S W K hE hf hd hK
                have d79 : S.tmps.getD 79 undef = (.slice Ay y.length cy) := hd 13 _ rfl (by kernel_rfl)
                have d78 : S.tmps.getD 78 undef = (.bool true) := hd 12 _ rfl (by kernel_rfl)
                refine want_then (t := 78) d78 rfl rfl rfl ?_
                rw [Array.getD_eq_getD_getElem?] at d79 d78
                have hcv := conv_str (hry.below hE) 24 9 5 cy Try.underlying24 Try.underlying5 Try.underlying9
                go_simp
                exact hK _ _ (Ext.refl _) (fun _ => rfl)
              · intro S W K hE hf hd hK
                have f12 : S.tmps.getD 12 undef = .slice Af y.length cf := hf 12 (by kernel_rfl)
                have d78 : S.tmps.getD 78 undef = (.bool true) := hd 12 _ rfl (by kernel_rfl)
                refine want_then (t := 78) d78 rfl rfl rfl ?_
                rw [Array.getD_eq_getD_getElem?] at f12 d78
                go_simp
                exact hK _ _ (Ext.refl _) (fun _ => rfl)
              · intro S W K hE hf hd hK
                have d81 : S.tmps.getD 81 undef = (.slice Af y.length cf) := hd 15 _ rfl (by kernel_rfl)
                have d78 : S.tmps.getD 78 undef = (.bool true) := hd 12 _ rfl (by kernel_rfl)
                refine want_then (t := 78) d78 rfl rfl rfl ?_
                rw [Array.getD_eq_getD_getElem?] at d81 d78
                have hcv := conv_str (hrf.below hE) 24 9 5 cf Try.underlying24 Try.underlying5 Try.underlying9
                go_simp
                exact hK _ _ (Ext.refl _) (fun _ => rfl)
              · intro S W K hE hf hd hK
                have d80 : S.tmps.getD 80 undef = (.string ⟨y.toArray⟩) := hd 14 _ rfl (by kernel_rfl)
                have d82 : S.tmps.getD 82 undef = (.string ⟨y.toArray⟩) := hd 16 _ rfl (by kernel_rfl)
                have d78 : S.tmps.getD 78 undef = (.bool true) := hd 12 _ rfl (by kernel_rfl)
                refine want_then (t := 78) d78 rfl rfl rfl ?_
                rw [Array.getD_eq_getD_getElem?] at d80 d82 d78
                go_simp
                exact hK _ _ (Ext.refl _) (fun _ => rfl)
              · intro S W K hE hf hd hK
                have d83 : S.tmps.getD 83 undef = (.bool false) := hd 17 _ rfl (by kernel_rfl)
                have d78 : S.tmps.getD 78 undef = (.bool true) := hd 12 _ rfl (by kernel_rfl)
                refine want_then (t := 78) d78 rfl rfl rfl ?_
                rw [Array.getD_eq_getD_getElem?] at d83 d78
                go_simp
                exact hK _ _ (Ext.refl _) (fun _ => rfl)
              · intro S W K hE hf hd hK
                have f10 : S.tmps.getD 10 undef = .slice Ay y.length cy := hf 10 (by kernel_rfl)
                have d84 : S.tmps.getD 84 undef = (.bool false) := hd 18 _ rfl (by kernel_rfl)
                refine want_then (t := 84) d84 rfl rfl rfl ?_
                rw [Array.getD_eq_getD_getElem?] at f10 d84
                go_simp
                exact hK _ _ (Ext.refl _) (fun _ => rfl)
              · intro S W K hE hf hd hK
                have d85 : S.tmps.getD 85 undef = (.slice Ay y.length cy) := hd 19 _ rfl (by kernel_rfl)
                have d84 : S.tmps.getD 84 undef = (.bool false) := hd 18 _ rfl (by kernel_rfl)
                refine want_then (t := 84) d84 rfl rfl rfl ?_
                rw [Array.getD_eq_getD_getElem?] at d85 d84
                go_simp
                exact hK _ _ (Ext.alloc _ _) (fun _ => ⟨_, rfl, cell_new0 _ _ _⟩)
              · intro S W K hE hf hd hK
                obtain ⟨g86, d86, c86⟩ : ∃ g, S.tmps.getD 86 undef = .slice (some ⟨g, 0, none⟩) 1 1 ∧ W.cell? ⟨g, 0, none⟩ = some (.slice Ay y.length cy) := hd 20 _ rfl (by kernel_rfl)
                have d84 : S.tmps.getD 84 undef = (.bool false) := hd 18 _ rfl (by kernel_rfl)
                refine want_then (t := 84) d84 rfl rfl rfl ?_
                rw [Array.getD_eq_getD_getElem?] at d86 d84
                go_simp
                have h87 := Seal_calls (some ⟨g86, 0, none⟩) 1 [y] W (by simp [maxLen]) (by simp; omega) ⟨[.slice Ay y.length cy], .inr ⟨_, rfl, World.block_lt_of_cell? W _ c86, fun j u hj => by
                  match j, hj with
                  | 0, hj => simp at hj; subst hj; exact c86⟩, Reps.single rfl ⟨_, rfl, Ay, cy, rfl, hcy, hmy, (hry.below hE).lt⟩⟩
                refine h87.mono ?_
                rintro e W' ⟨v, rfl, hov, hb⟩
                refine hK _ _ hb (fun _ => ?_)
                have := IsSl.of hov.sl
                rw [show [y].flatten = y by simp, Hsy.out] at this
                exact this
              · intro S W K hE hf hd hK
                obtain ⟨A87, c87, d87, l87, m87, r87⟩ := (show IsSl kb t (S.tmps.getD 87 undef) W from hd 21 _ rfl (by kernel_rfl))
                have d84 : S.tmps.getD 84 undef = (.bool false) := hd 18 _ rfl (by kernel_rfl)
                refine want_then (t := 84) d84 rfl rfl rfl ?_
                rw [Array.getD_eq_getD_getElem?] at d87 d84
                have hcv := conv_str (r87) 24 9 5 c87 Try.underlying24 Try.underlying5 Try.underlying9
                go_simp
                exact hK _ _ (Ext.refl _) (fun _ => rfl)
              · intro S W K hE hf hd hK
                have f1 : S.tmps.getD 1 undef = .slice A6 t.length c6 := hf 1 (by kernel_rfl)
                have d84 : S.tmps.getD 84 undef = (.bool false) := hd 18 _ rfl (by kernel_rfl)
                refine want_then (t := 84) d84 rfl rfl rfl ?_
                rw [Array.getD_eq_getD_getElem?] at f1 d84
                go_simp
                exact hK _ _ (Ext.refl _) (fun _ => rfl)
              · intro S W K hE hf hd hK
                have d89 : S.tmps.getD 89 undef = (.slice A6 t.length c6) := hd 23 _ rfl (by kernel_rfl)
                have d84 : S.tmps.getD 84 undef = (.bool false) := hd 18 _ rfl (by kernel_rfl)
                refine want_then (t := 84) d84 rfl rfl rfl ?_
                rw [Array.getD_eq_getD_getElem?] at d89 d84
                have hcv := conv_str (hr6.below hE) 24 9 5 c6 Try.underlying24 Try.underlying5 Try.underlying9
                go_simp
                exact hK _ _ (Ext.refl _) (fun _ => rfl)
              · intro S W K hE hf hd hK
                have d88 : S.tmps.getD 88 undef = (.string ⟨t.toArray⟩) := hd 22 _ rfl (by kernel_rfl)
                have d90 : S.tmps.getD 90 undef = (.string ⟨t.toArray⟩) := hd 24 _ rfl (by kernel_rfl)
                have d84 : S.tmps.getD 84 undef = (.bool false) := hd 18 _ rfl (by kernel_rfl)
                refine want_then (t := 84) d84 rfl rfl rfl ?_
                rw [Array.getD_eq_getD_getElem?] at d88 d90 d84
                go_simp
                exact hK _ _ (Ext.refl _) (fun _ => rfl)
              · intro S W K hE hf hd hK
                have d84 : S.tmps.getD 84 undef = (.bool false) := hd 18 _ rfl (by kernel_rfl)
                have d91 : S.tmps.getD 91 undef = (.bool false) := hd 25 _ rfl (by kernel_rfl)
                have d78 : S.tmps.getD 78 undef = (.bool true) := hd 12 _ rfl (by kernel_rfl)
                refine want_then (t := 78) d78 rfl rfl rfl ?_
                rw [Array.getD_eq_getD_getElem?] at d84 d91 d78
                go_simp
                exact hK _ _ (Ext.refl _) (fun _ => rfl)
              · intro S W K hE hf hd hK
                have d78 : S.tmps.getD 78 undef = (.bool true) := hd 12 _ rfl (by kernel_rfl)
                have d92 : S.tmps.getD 92 undef = (.bool false) := hd 26 _ rfl (by kernel_rfl)
                have d76 : S.tmps.getD 76 undef = (.bool false) := hd 10 _ rfl (by kernel_rfl)
                refine want_then (t := 76) d76 rfl rfl rfl ?_
                rw [Array.getD_eq_getD_getElem?] at d78 d92 d76
                go_simp
                exact hK _ _ (Ext.refl _) (fun _ => rfl)
              · intro S W K hE hf hd hK
                have d76 : S.tmps.getD 76 undef = (.bool false) := hd 10 _ rfl (by kernel_rfl)
                have d93 : S.tmps.getD 93 undef = (.bool false) := hd 27 _ rfl (by kernel_rfl)
                refine want_free rfl ?_
                rw [Array.getD_eq_getD_getElem?] at d76 d93
                go_simp
                exact hK _ _ (Ext.refl _) (fun _ => rfl)
              · intro S W K hE hf hd hK
                have d94 : S.tmps.getD 94 undef = (.bool false) := hd 28 _ rfl (by kernel_rfl)
                refine want_free rfl ?_
                rw [Array.getD_eq_getD_getElem?] at d94
                go_simp
                exact hK _ _ (Ext.refl _) (fun _ => rfl)
              · intro S W K hE hf hd hK
                have f11 : S.tmps.getD 11 undef = .bool true := hf 11 (by kernel_rfl)
                have d95 : S.tmps.getD 95 undef = (.bool false) := hd 29 _ rfl (by kernel_rfl)
                refine want_then (t := 95) d95 rfl rfl rfl ?_
                rw [Array.getD_eq_getD_getElem?] at f11 d95
                go_simp
                exact hK _ _ (Ext.refl _) (fun _ => rfl)
              · intro S W K hE hf hd hK
                have d96 : S.tmps.getD 96 undef = (.bool true) := hd 30 _ rfl (by kernel_rfl)
                have d95 : S.tmps.getD 95 undef = (.bool false) := hd 29 _ rfl (by kernel_rfl)
                refine want_then (t := 95) d95 rfl rfl rfl ?_
                rw [Array.getD_eq_getD_getElem?] at d96 d95
                go_simp
                exact hK _ _ (Ext.refl _) (fun _ => rfl)
              · intro S W K hE hf hd hK
                have d97 : S.tmps.getD 97 undef = (.bool false) := hd 31 _ rfl (by kernel_rfl)
                have d95 : S.tmps.getD 95 undef = (.bool false) := hd 29 _ rfl (by kernel_rfl)
                refine want_then (t := 95) d95 rfl rfl rfl ?_
                rw [Array.getD_eq_getD_getElem?] at d97 d95
                go_simp
                exact hK _ _ (Ext.refl _) (fun _ => rfl)
              · intro S W K hE hf hd hK
                have f10 : S.tmps.getD 10 undef = .slice Ay y.length cy := hf 10 (by kernel_rfl)
                have d98 : S.tmps.getD 98 undef = (.bool false) := hd 32 _ rfl (by kernel_rfl)
                refine want_else (t := 98) d98 rfl rfl rfl rfl ?_
                exact fun _ => rfl
              · intro S W K hE hf hd hK
                have d99 : S.tmps.getD 99 undef = undef := hd 33 _ rfl (by kernel_rfl)
                have d98 : S.tmps.getD 98 undef = (.bool false) := hd 32 _ rfl (by kernel_rfl)
                refine want_else (t := 98) d98 rfl rfl rfl rfl ?_
                exact fun _ => rfl
              · intro S W K hE hf hd hK
                have d100 : S.tmps.getD 100 undef = undef := hd 34 _ rfl (by kernel_rfl)
                have d98 : S.tmps.getD 98 undef = (.bool false) := hd 32 _ rfl (by kernel_rfl)
                refine want_else (t := 98) d98 rfl rfl rfl rfl ?_
                exact fun _ => rfl
              · intro S W K hE hf hd hK
                have d98 : S.tmps.getD 98 undef = (.bool false) := hd 32 _ rfl (by kernel_rfl)
                have d101 : S.tmps.getD 101 undef = undef := hd 35 _ rfl (by kernel_rfl)
                have d95 : S.tmps.getD 95 undef = (.bool false) := hd 29 _ rfl (by kernel_rfl)
                refine want_then (t := 95) d95 rfl rfl rfl ?_
                rw [Array.getD_eq_getD_getElem?] at d98 d101 d95
                go_simp
                exact hK _ _ (Ext.refl _) (fun _ => rfl)
              · intro S W K hE hf hd hK
                have d95 : S.tmps.getD 95 undef = (.bool false) := hd 29 _ rfl (by kernel_rfl)
                have d102 : S.tmps.getD 102 undef = (.bool false) := hd 36 _ rfl (by kernel_rfl)
                refine want_free rfl ?_
                rw [Array.getD_eq_getD_getElem?] at d95 d102
                go_simp
                exact hK _ _ (Ext.refl _) (fun _ => rfl)
            · intro vs W hE hV
              have v0 : vs 0 = (.bool true) := hV 0 _ rfl (fun h => by cases h)
              have v1 : vs 1 = (.int .i64 ((y.length : Int) + 8)) := hV 1 _ rfl (fun h => by cases h)
              have v2 : vs 2 = (.bool true) := hV 2 _ rfl (fun h => by cases h)
              have v3 : vs 3 = (.bool true) := hV 3 _ rfl (fun h => by cases h)
              have v4 : vs 4 = (.int .i64 ((y.length : Int) + 8)) := hV 4 _ rfl (fun h => by cases h)
              have v5 : vs 5 = (.slice A6 t.length c6) := hV 5 _ rfl (fun h => by cases h)
              have v6 : vs 6 = (.int .i64 t.length) := hV 6 _ rfl (fun h => by cases h)
              have v7 : vs 7 = (.bool true) := hV 7 _ rfl (fun h => by cases h)
              have v8 : vs 8 = (.bool true) := hV 8 _ rfl (fun h => by cases h)
              have v9 : vs 9 = (.bool false) := hV 9 _ rfl (fun h => by cases h)
              have v10 : vs 10 = (.bool false) := hV 10 _ rfl (fun h => by cases h)
              have v11 : vs 11 = (.bool true) := hV 11 _ rfl (fun h => by cases h)
              have v12 : vs 12 = (.bool true) := hV 12 _ rfl (fun h => by cases h)
              have v13 : vs 13 = (.slice Ay y.length cy) := hV 13 _ rfl (fun h => by cases h)
              have v14 : vs 14 = (.string ⟨y.toArray⟩) := hV 14 _ rfl (fun h => by cases h)
              have v15 : vs 15 = (.slice Af y.length cf) := hV 15 _ rfl (fun h => by cases h)
              have v16 : vs 16 = (.string ⟨y.toArray⟩) := hV 16 _ rfl (fun h => by cases h)
              have v17 : vs 17 = (.bool false) := hV 17 _ rfl (fun h => by cases h)
              have v18 : vs 18 = (.bool false) := hV 18 _ rfl (fun h => by cases h)
              have v19 : vs 19 = (.slice Ay y.length cy) := hV 19 _ rfl (fun h => by cases h)
              have v20 := hV 20 _ rfl (fun h => by cases h)
              have v21 := hV 21 _ rfl (fun h => by cases h)
              have v22 : vs 22 = (.string ⟨t.toArray⟩) := hV 22 _ rfl (fun h => by cases h)
              have v23 : vs 23 = (.slice A6 t.length c6) := hV 23 _ rfl (fun h => by cases h)
              have v24 : vs 24 = (.string ⟨t.toArray⟩) := hV 24 _ rfl (fun h => by cases h)
              have v25 : vs 25 = (.bool false) := hV 25 _ rfl (fun h => by cases h)
              have v26 : vs 26 = (.bool false) := hV 26 _ rfl (fun h => by cases h)
              have v27 : vs 27 = (.bool false) := hV 27 _ rfl (fun h => by cases h)
              have v28 : vs 28 = (.bool false) := hV 28 _ rfl (fun h => by cases h)
              have v29 : vs 29 = (.bool false) := hV 29 _ rfl (fun h => by cases h)
              have v30 : vs 30 = (.bool true) := hV 30 _ rfl (fun h => by cases h)
              have v31 : vs 31 = (.bool false) := hV 31 _ rfl (fun h => by cases h)
              have v32 : vs 32 = (.bool false) := hV 32 _ rfl (fun h => by cases h)
              have v33 : vs 33 = undef := hV 33 _ rfl (fun h => by cases h)
              have v34 : vs 34 = undef := hV 34 _ rfl (fun h => by cases h)
              have v35 : vs 35 = undef := hV 35 _ rfl (fun h => by cases h)
              have v36 : vs 36 = (.bool false) := hV 36 _ rfl (fun h => by cases h)
              have v37 : vs 37 = (.bool false) := hV 37 _ rfl (fun h => by cases h)
              clear hV
              set_option maxRecDepth 100000 in simp only [putAll, List.map_cons, List.map_nil, List.length_cons, List.length_nil, Nat.reduceAdd, List.range_succ, List.range_zero, List.nil_append, List.cons_append]
              set_option maxRecDepth 100000 in go_simp
              have HB9 := HB8.trans (hE.mono HB8.size)
              clear v0 v1 v2 v3 v4 v5 v6 v7 v8 v9 v10 v11 v12 v13 v14 v15 v16 v17 v18 v19 v20 v21 v22 v23 v24 v25 v26 v27 v28 v29 v30 v31 v32 v33 v34 v35 v36 v37
              go_wp2_with fail
              refine (awake_calls W).mono ?_
              rintro e w9 ⟨rfl, hb9⟩
              go_wp2
              go_ret
              exact ⟨rfl, HB9.trans (hb9.mono HB9.size)⟩
          · have ho : openO t = none := by rw [Hox.out, hfo]; exact if_neg hw
            rw [ho] at hoy ⊢
            simp only [Option.isSome, Option.getD] at hoy hof ⊢
            obtain ⟨Ay, cy, e1, _, _⟩ := hoy.slice
            subst e1
            simp only [List.length_nil] at *
            clear hfo ho
            have Hw := Lib.hid hw
            clear hw
            go_upto_region 19 with fail
            refine wp_region_steps [.eq (.bool false), .eq (.int .i64 ((y.length : Int) + 8)), .eq (.bool true), .eq (.bool true), .eq (.int .i64 ((y.length : Int) + 8)), .eq (.slice A6 t.length c6), .eq (.int .i64 t.length), .eq (.bool false), .eq (.bool false), .eq (.bool false), .eq (.bool false), .eq (.bool false), .eq (.bool false), .eq undef, .eq undef, .eq undef, .eq undef, .eq undef, .eq undef, .eq undef, .eq undef, .eq undef, .eq undef, .eq undef, .eq undef, .eq undef, .eq undef, .eq (.bool false), .eq (.bool false), .eq (.bool false), .eq (.bool false), .eq (.bool true), .eq (.bool true), .eq (.slice Ay 0 cy), .eq (.int .i64 0), .eq (.bool false), .eq (.bool false), .eq (.bool false)] (by kernel_rfl) (by kernel_rfl) (all_dst (by kernel_rfl)) ?_ ?_
            · refine ⟨?_, ?_, ?_, ?_, ?_, ?_, ?_, ?_, ?_, ?_, ?_, ?_, ?_, ?_, ?_, ?_, ?_, ?_, ?_, ?_, ?_, ?_, ?_, ?_, ?_, ?_, ?_, ?_, ?_, ?_, ?_, ?_, ?_, ?_, ?_, ?_, ?_, ?_, trivial⟩
              · intro S W K hE hf hd hK
                have f11 : S.tmps.getD 11 undef = .bool false := hf 11 (by kernel_rfl)
                refine want_free rfl ?_
                rw [Array.getD_eq_getD_getElem?] at f11
                go_simp
                exact hK _ _ (Ext.refl _) (fun _ => rfl)
              · intro S W K hE hf hd hK
                have f13 : S.tmps.getD 13 undef = .int .i64 ((y.length : Int) + 8) := hf 13 (by kernel_rfl)
                refine want_free rfl ?_
                rw [Array.getD_eq_getD_getElem?] at f13
                go_simp
                exact hK _ _ (Ext.refl _) (fun _ => rfl)
              · intro S W K hE hf hd hK
                have d67 : S.tmps.getD 67 undef = (.int .i64 ((y.length : Int) + 8)) := hd 1 _ rfl (by kernel_rfl)
                refine want_free rfl ?_
                rw [Array.getD_eq_getD_getElem?] at d67
                have hh : (0 : Int) < (y.length : Int) + 8 := by omega
                go_simp
                exact hK _ _ (Ext.refl _) (fun _ => rfl)
              · intro S W K hE hf hd hK
                have d68 : S.tmps.getD 68 undef = (.bool true) := hd 2 _ rfl (by kernel_rfl)
                refine want_free rfl ?_
                rw [Array.getD_eq_getD_getElem?] at d68
                go_simp
                exact hK _ _ (Ext.refl _) (fun _ => rfl)
              · intro S W K hE hf hd hK
                have f13 : S.tmps.getD 13 undef = .int .i64 ((y.length : Int) + 8) := hf 13 (by kernel_rfl)
                have d69 : S.tmps.getD 69 undef = (.bool true) := hd 3 _ rfl (by kernel_rfl)
                refine want_then (t := 69) d69 rfl rfl rfl ?_
                rw [Array.getD_eq_getD_getElem?] at f13 d69
                go_simp
                exact hK _ _ (Ext.refl _) (fun _ => rfl)
              · intro S W K hE hf hd hK
                have f1 : S.tmps.getD 1 undef = .slice A6 t.length c6 := hf 1 (by kernel_rfl)
                have d69 : S.tmps.getD 69 undef = (.bool true) := hd 3 _ rfl (by kernel_rfl)
                refine want_then (t := 69) d69 rfl rfl rfl ?_
                rw [Array.getD_eq_getD_getElem?] at f1 d69
                go_simp
                exact hK _ _ (Ext.refl _) (fun _ => rfl)
              · intro S W K hE hf hd hK
                have d71 : S.tmps.getD 71 undef = (.slice A6 t.length c6) := hd 5 _ rfl (by kernel_rfl)
                have d69 : S.tmps.getD 69 undef = (.bool true) := hd 3 _ rfl (by kernel_rfl)
                refine want_then (t := 69) d69 rfl rfl rfl ?_
                rw [Array.getD_eq_getD_getElem?] at d71 d69
                go_simp
                exact hK _ _ (Ext.refl _) (fun _ => rfl)
              · intro S W K hE hf hd hK
                have d70 : S.tmps.getD 70 undef = (.int .i64 ((y.length : Int) + 8)) := hd 4 _ rfl (by kernel_rfl)
                have d72 : S.tmps.getD 72 undef = (.int .i64 t.length) := hd 6 _ rfl (by kernel_rfl)
                have d69 : S.tmps.getD 69 undef = (.bool true) := hd 3 _ rfl (by kernel_rfl)
                refine want_then (t := 69) d69 rfl rfl rfl ?_
                rw [Array.getD_eq_getD_getElem?] at d70 d72 d69
                have hh : ((y.length : Int) + 8 == (t.length : Int)) = false := by have := Hw.out; simp; omega
                go_simp
                exact hK _ _ (Ext.refl _) (fun _ => rfl)
              · intro S W K hE hf hd hK
                have d69 : S.tmps.getD 69 undef = (.bool true) := hd 3 _ rfl (by kernel_rfl)
                have d73 : S.tmps.getD 73 undef = (.bool false) := hd 7 _ rfl (by kernel_rfl)
                refine want_free rfl ?_
                rw [Array.getD_eq_getD_getElem?] at d69 d73
                go_simp
                exact hK _ _ (Ext.refl _) (fun _ => rfl)
              · intro S W K hE hf hd hK
                have d66 : S.tmps.getD 66 undef = (.bool false) := hd 0 _ rfl (by kernel_rfl)
                have d74 : S.tmps.getD 74 undef = (.bool false) := hd 8 _ rfl (by kernel_rfl)
                refine want_free rfl ?_
                rw [Array.getD_eq_getD_getElem?] at d66 d74
                go_simp
                exact hK _ _ (Ext.refl _) (fun _ => rfl)
              · intro S W K hE hf hd hK
                have d75 : S.tmps.getD 75 undef = (.bool false) := hd 9 _ rfl (by kernel_rfl)
                refine want_free rfl ?_
                rw [Array.getD_eq_getD_getElem?] at d75
                go_simp
                exact hK _ _ (Ext.refl _) (fun _ => rfl)
              · intro S W K hE hf hd hK
                have f11 : S.tmps.getD 11 undef = .bool false := hf 11 (by kernel_rfl)
                have d76 : S.tmps.getD 76 undef = (.bool false) := hd 10 _ rfl (by kernel_rfl)
                refine want_then (t := 76) d76 rfl rfl rfl ?_
                rw [Array.getD_eq_getD_getElem?] at f11 d76
                go_simp
                exact hK _ _ (Ext.refl _) (fun _ => rfl)
              · intro S W K hE hf hd hK
                have d77 : S.tmps.getD 77 undef = (.bool false) := hd 11 _ rfl (by kernel_rfl)
                have d76 : S.tmps.getD 76 undef = (.bool false) := hd 10 _ rfl (by kernel_rfl)
                refine want_then (t := 76) d76 rfl rfl rfl ?_
                rw [Array.getD_eq_getD_getElem?] at d77 d76
                go_simp
                exact hK _ _ (Ext.refl _) (fun _ => rfl)
              · intro S W K hE hf hd hK
                have f10 : S.tmps.getD 10 undef = .slice Ay 0 cy := hf 10 (by kernel_rfl)
                have d78 : S.tmps.getD 78 undef = (.bool false) := hd 12 _ rfl (by kernel_rfl)
                refine want_else (t := 78) d78 rfl rfl rfl rfl ?_
                exact fun _ => rfl
              · intro S W K hE hf hd hK
                have d79 : S.tmps.getD 79 undef = undef := hd 13 _ rfl (by kernel_rfl)
                have d78 : S.tmps.getD 78 undef = (.bool false) := hd 12 _ rfl (by kernel_rfl)
                refine want_else (t := 78) d78 rfl rfl rfl rfl ?_
                exact fun _ => rfl
              · intro S W K hE hf hd hK
                have d78 : S.tmps.getD 78 undef = (.bool false) := hd 12 _ rfl (by kernel_rfl)
                refine want_else (t := 78) d78 rfl rfl rfl rfl ?_
                exact fun _ => rfl
              · intro S W K hE hf hd hK
                have d81 : S.tmps.getD 81 undef = undef := hd 15 _ rfl (by kernel_rfl)
                have d78 : S.tmps.getD 78 undef = (.bool false) := hd 12 _ rfl (by kernel_rfl)
                refine want_else (t := 78) d78 rfl rfl rfl rfl ?_
                exact fun _ => rfl
              · intro S W K hE hf hd hK
                have d80 : S.tmps.getD 80 undef = undef := hd 14 _ rfl (by kernel_rfl)
                have d82 : S.tmps.getD 82 undef = undef := hd 16 _ rfl (by kernel_rfl)
                have d78 : S.tmps.getD 78 undef = (.bool false) := hd 12 _ rfl (by kernel_rfl)
                refine want_else (t := 78) d78 rfl rfl rfl rfl ?_
                exact fun _ => rfl
              · intro S W K hE hf hd hK
                have d83 : S.tmps.getD 83 undef = undef := hd 17 _ rfl (by kernel_rfl)
                have d78 : S.tmps.getD 78 undef = (.bool false) := hd 12 _ rfl (by kernel_rfl)
                refine want_else (t := 78) d78 rfl rfl rfl rfl ?_
                exact fun _ => rfl
              · intro S W K hE hf hd hK
                have f10 : S.tmps.getD 10 undef = .slice Ay 0 cy := hf 10 (by kernel_rfl)
                have d84 : S.tmps.getD 84 undef = undef := hd 18 _ rfl (by kernel_rfl)
                refine want_undef (t := 84) d84 rfl rfl rfl ?_
                exact fun _ => rfl
              · intro S W K hE hf hd hK
                have d85 : S.tmps.getD 85 undef = undef := hd 19 _ rfl (by kernel_rfl)
                have d84 : S.tmps.getD 84 undef = undef := hd 18 _ rfl (by kernel_rfl)
                refine want_undef (t := 84) d84 rfl rfl rfl ?_
                exact fun _ => rfl
              · intro S W K hE hf hd hK
                have d86 : S.tmps.getD 86 undef = undef := hd 20 _ rfl (by kernel_rfl)
                have d84 : S.tmps.getD 84 undef = undef := hd 18 _ rfl (by kernel_rfl)
                refine want_undef (t := 84) d84 rfl rfl rfl ?_
                exact fun _ => rfl
              · intro S W K hE hf hd hK
                have d87 : S.tmps.getD 87 undef = undef := hd 21 _ rfl (by kernel_rfl)
                have d84 : S.tmps.getD 84 undef = undef := hd 18 _ rfl (by kernel_rfl)
                refine want_undef (t := 84) d84 rfl rfl rfl ?_
                exact fun _ => rfl
              · intro S W K hE hf hd hK
                have f1 : S.tmps.getD 1 undef = .slice A6 t.length c6 := hf 1 (by kernel_rfl)
                have d84 : S.tmps.getD 84 undef = undef := hd 18 _ rfl (by kernel_rfl)
                refine want_undef (t := 84) d84 rfl rfl rfl ?_
                exact fun _ => rfl
              · intro S W K hE hf hd hK
                have d89 : S.tmps.getD 89 undef = undef := hd 23 _ rfl (by kernel_rfl)
                have d84 : S.tmps.getD 84 undef = undef := hd 18 _ rfl (by kernel_rfl)
                refine want_undef (t := 84) d84 rfl rfl rfl ?_
                exact fun _ => rfl
              · intro S W K hE hf hd hK
                have d88 : S.tmps.getD 88 undef = undef := hd 22 _ rfl (by kernel_rfl)
                have d90 : S.tmps.getD 90 undef = undef := hd 24 _ rfl (by kernel_rfl)
                have d84 : S.tmps.getD 84 undef = undef := hd 18 _ rfl (by kernel_rfl)
                refine want_undef (t := 84) d84 rfl rfl rfl ?_
                exact fun _ => rfl
              · intro S W K hE hf hd hK
                have d84 : S.tmps.getD 84 undef = undef := hd 18 _ rfl (by kernel_rfl)
                have d91 : S.tmps.getD 91 undef = undef := hd 25 _ rfl (by kernel_rfl)
                have d78 : S.tmps.getD 78 undef = (.bool false) := hd 12 _ rfl (by kernel_rfl)
                refine want_else (t := 78) d78 rfl rfl rfl rfl ?_
                exact fun _ => rfl
              · intro S W K hE hf hd hK
                have d78 : S.tmps.getD 78 undef = (.bool false) := hd 12 _ rfl (by kernel_rfl)
                have d92 : S.tmps.getD 92 undef = undef := hd 26 _ rfl (by kernel_rfl)
                have d76 : S.tmps.getD 76 undef = (.bool false) := hd 10 _ rfl (by kernel_rfl)
                refine want_then (t := 76) d76 rfl rfl rfl ?_
                rw [Array.getD_eq_getD_getElem?] at d78 d92 d76
                go_simp
                exact hK _ _ (Ext.refl _) (fun _ => rfl)
              · intro S W K hE hf hd hK
                have d76 : S.tmps.getD 76 undef = (.bool false) := hd 10 _ rfl (by kernel_rfl)
                have d93 : S.tmps.getD 93 undef = (.bool false) := hd 27 _ rfl (by kernel_rfl)
                refine want_free rfl ?_
                rw [Array.getD_eq_getD_getElem?] at d76 d93
                go_simp
                exact hK _ _ (Ext.refl _) (fun _ => rfl)
              · intro S W K hE hf hd hK
                have d94 : S.tmps.getD 94 undef = (.bool false) := hd 28 _ rfl (by kernel_rfl)
                refine want_free rfl ?_
                rw [Array.getD_eq_getD_getElem?] at d94
                go_simp
                exact hK _ _ (Ext.refl _) (fun _ => rfl)
              · intro S W K hE hf hd hK
                have f11 : S.tmps.getD 11 undef = .bool false := hf 11 (by kernel_rfl)
                have d95 : S.tmps.getD 95 undef = (.bool false) := hd 29 _ rfl (by kernel_rfl)
                refine want_then (t := 95) d95 rfl rfl rfl ?_
                rw [Array.getD_eq_getD_getElem?] at f11 d95
                go_simp
                exact hK _ _ (Ext.refl _) (fun _ => rfl)
              · intro S W K hE hf hd hK
                have d96 : S.tmps.getD 96 undef = (.bool false) := hd 30 _ rfl (by kernel_rfl)
                have d95 : S.tmps.getD 95 undef = (.bool false) := hd 29 _ rfl (by kernel_rfl)
                refine want_then (t := 95) d95 rfl rfl rfl ?_
                rw [Array.getD_eq_getD_getElem?] at d96 d95
                go_simp
                exact hK _ _ (Ext.refl _) (fun _ => rfl)
              · intro S W K hE hf hd hK
                have d97 : S.tmps.getD 97 undef = (.bool true) := hd 31 _ rfl (by kernel_rfl)
                have d95 : S.tmps.getD 95 undef = (.bool false) := hd 29 _ rfl (by kernel_rfl)
                refine want_then (t := 95) d95 rfl rfl rfl ?_
                rw [Array.getD_eq_getD_getElem?] at d97 d95
                go_simp
                exact hK _ _ (Ext.refl _) (fun _ => rfl)
              · intro S W K hE hf hd hK
                have f10 : S.tmps.getD 10 undef = .slice Ay 0 cy := hf 10 (by kernel_rfl)
                have d98 : S.tmps.getD 98 undef = (.bool true) := hd 32 _ rfl (by kernel_rfl)
                refine want_then (t := 98) d98 rfl rfl rfl ?_
                rw [Array.getD_eq_getD_getElem?] at f10 d98
                go_simp
                exact hK _ _ (Ext.refl _) (fun _ => rfl)
              · intro S W K hE hf hd hK
                have d99 : S.tmps.getD 99 undef = (.slice Ay 0 cy) := hd 33 _ rfl (by kernel_rfl)
                have d98 : S.tmps.getD 98 undef = (.bool true) := hd 32 _ rfl (by kernel_rfl)
                refine want_then (t := 98) d98 rfl rfl rfl ?_
                rw [Array.getD_eq_getD_getElem?] at d99 d98
                go_simp
                exact hK _ _ (Ext.refl _) (fun _ => rfl)
              · intro S W K hE hf hd hK
                have d100 : S.tmps.getD 100 undef = (.int .i64 0) := hd 34 _ rfl (by kernel_rfl)
                have d98 : S.tmps.getD 98 undef = (.bool true) := hd 32 _ rfl (by kernel_rfl)
                refine want_then (t := 98) d98 rfl rfl rfl ?_
                rw [Array.getD_eq_getD_getElem?] at d100 d98
                go_simp
                exact hK _ _ (Ext.refl _) (fun _ => rfl)
              · intro S W K hE hf hd hK
                have d98 : S.tmps.getD 98 undef = (.bool true) := hd 32 _ rfl (by kernel_rfl)
                have d101 : S.tmps.getD 101 undef = (.bool false) := hd 35 _ rfl (by kernel_rfl)
                have d95 : S.tmps.getD 95 undef = (.bool false) := hd 29 _ rfl (by kernel_rfl)
                refine want_then (t := 95) d95 rfl rfl rfl ?_
                rw [Array.getD_eq_getD_getElem?] at d98 d101 d95
                go_simp
                exact hK _ _ (Ext.refl _) (fun _ => rfl)
              · intro S W K hE hf hd hK
                have d95 : S.tmps.getD 95 undef = (.bool false) := hd 29 _ rfl (by kernel_rfl)
                have d102 : S.tmps.getD 102 undef = (.bool false) := hd 36 _ rfl (by kernel_rfl)
                refine want_free rfl ?_
                rw [Array.getD_eq_getD_getElem?] at d95 d102
                go_simp
                exact hK _ _ (Ext.refl _) (fun _ => rfl)
            · intro vs W hE hV
              have v0 : vs 0 = (.bool false) := hV 0 _ rfl (fun h => by cases h)
              have v1 : vs 1 = (.int .i64 ((y.length : Int) + 8)) := hV 1 _ rfl (fun h => by cases h)
              have v2 : vs 2 = (.bool true) := hV 2 _ rfl (fun h => by cases h)
              have v3 : vs 3 = (.bool true) := hV 3 _ rfl (fun h => by cases h)
              have v4 : vs 4 = (.int .i64 ((y.length : Int) + 8)) := hV 4 _ rfl (fun h => by cases h)
              have v5 : vs 5 = (.slice A6 t.length c6) := hV 5 _ rfl (fun h => by cases h)
              have v6 : vs 6 = (.int .i64 t.length) := hV 6 _ rfl (fun h => by cases h)
              have v7 : vs 7 = (.bool false) := hV 7 _ rfl (fun h => by cases h)
              have v8 : vs 8 = (.bool false) := hV 8 _ rfl (fun h => by cases h)
              have v9 : vs 9 = (.bool false) := hV 9 _ rfl (fun h => by cases h)
              have v10 : vs 10 = (.bool false) := hV 10 _ rfl (fun h => by cases h)
              have v11 : vs 11 = (.bool false) := hV 11 _ rfl (fun h => by cases h)
              have v12 : vs 12 = (.bool false) := hV 12 _ rfl (fun h => by cases h)
              have v13 : vs 13 = undef := hV 13 _ rfl (fun h => by cases h)
              have v14 : vs 14 = undef := hV 14 _ rfl (fun h => by cases h)
              have v15 : vs 15 = undef := hV 15 _ rfl (fun h => by cases h)
              have v16 : vs 16 = undef := hV 16 _ rfl (fun h => by cases h)
              have v17 : vs 17 = undef := hV 17 _ rfl (fun h => by cases h)
              have v18 : vs 18 = undef := hV 18 _ rfl (fun h => by cases h)
              have v19 : vs 19 = undef := hV 19 _ rfl (fun h => by cases h)
              have v20 : vs 20 = undef := hV 20 _ rfl (fun h => by cases h)
              have v21 : vs 21 = undef := hV 21 _ rfl (fun h => by cases h)
              have v22 : vs 22 = undef := hV 22 _ rfl (fun h => by cases h)
              have v23 : vs 23 = undef := hV 23 _ rfl (fun h => by cases h)
              have v24 : vs 24 = undef := hV 24 _ rfl (fun h => by cases h)
              have v25 : vs 25 = undef := hV 25 _ rfl (fun h => by cases h)
              have v26 : vs 26 = undef := hV 26 _ rfl (fun h => by cases h)
              have v27 : vs 27 = (.bool false) := hV 27 _ rfl (fun h => by cases h)
              have v28 : vs 28 = (.bool false) := hV 28 _ rfl (fun h => by cases h)
              have v29 : vs 29 = (.bool false) := hV 29 _ rfl (fun h => by cases h)
              have v30 : vs 30 = (.bool false) := hV 30 _ rfl (fun h => by cases h)
              have v31 : vs 31 = (.bool true) := hV 31 _ rfl (fun h => by cases h)
              have v32 : vs 32 = (.bool true) := hV 32 _ rfl (fun h => by cases h)
              have v33 : vs 33 = (.slice Ay 0 cy) := hV 33 _ rfl (fun h => by cases h)
              have v34 : vs 34 = (.int .i64 0) := hV 34 _ rfl (fun h => by cases h)
              have v35 : vs 35 = (.bool false) := hV 35 _ rfl (fun h => by cases h)
              have v36 : vs 36 = (.bool false) := hV 36 _ rfl (fun h => by cases h)
              have v37 : vs 37 = (.bool false) := hV 37 _ rfl (fun h => by cases h)
              clear hV
              set_option maxRecDepth 100000 in simp only [putAll, List.map_cons, List.map_nil, List.length_cons, List.length_nil, Nat.reduceAdd, List.range_succ, List.range_zero, List.nil_append, List.cons_append]
              set_option maxRecDepth 100000 in go_simp
              have HB9 := HB8.trans (hE.mono HB8.size)
              clear v0 v1 v2 v3 v4 v5 v6 v7 v8 v9 v10 v11 v12 v13 v14 v15 v16 v17 v18 v19 v20 v21 v22 v23 v24 v25 v26 v27 v28 v29 v30 v31 v32 v33 v34 v35 v36 v37
              go_wp2_with fail
              refine (awake_calls W).mono ?_
              rintro e w9 ⟨rfl, hb9⟩
              go_wp2
              go_ret
              exact ⟨rfl, HB9.trans (hb9.mono HB9.size)⟩
end Go.Proofs.Ytkmjcjhnfpkakaa
