/- Contracts of the references: First, Scan, Same. -/
import Derived.Test.YtkmjcjhnfpkakaaRef02a
import Derived.Test.YtkmjcjhnfpkakaaRegion2
import Derived.Deep.DeepCutAuto
import Derived.Deep.CutBlock
set_option linter.unusedVariables false
set_option linter.unusedSimpArgs false
namespace Go.Proofs.Ytkmjcjhnfpkakaa
open Go Go.RowKit

theorem num32_le32 (x : Nat) (h : x < 4294967296) (r : List UInt8) : num32 (le32 x ++ r) = x := by
  simp [num32, le32]
  omega
theorem le32_num32 (l : List UInt8) (h : 4 ≤ l.length) : le32 (num32 l) = l.take 4 := by
  match l, h with
  | a :: b :: c :: d :: r, _ =>
    have ha := a.toNat_lt
    have hb := b.toNat_lt
    have hc := c.toNat_lt
    have hd := d.toNat_lt
    simp only [List.take_succ_cons, List.take_zero, le32, num32, List.getD_cons_zero, List.getD_cons_succ, List.cons.injEq, and_true]
    refine ⟨?_, ?_, ?_, ?_⟩ <;> apply UInt8.toNat_inj.1 <;> simp <;> omega
theorem num32_inj {a b : List UInt8} (ha : a.length = 4) (hb : b.length = 4) (h : num32 a = num32 b) : a = b := by
  have h1 := le32_num32 a (by omega)
  have h2 := le32_num32 b (by omega)
  rw [h, h2, List.take_of_length_le (by omega), List.take_of_length_le (by omega)] at h1
  exact h1.symm
theorem num32_take (l : List UInt8) : num32 (l.take 4) = num32 l := by
  match l with
  | [] => rfl
  | [a] => rfl
  | [a, b] => rfl
  | [a, b, c] => rfl
  | a :: b :: c :: d :: r => simp [num32]
/-- A frame is told by its being sealed anew. -/
theorem first_seal (l : List UInt8) (h8 : 8 ≤ l.length) (h1 : num32 l ≤ 262144) (h2 : num32 l + 8 ≤ l.length) :
    (sealO ((l.take (num32 l + 4)).drop 4) = l.take (num32 l + 8)) ↔ num32 (l.drop (num32 l + 4)) = (crcSum (l.take (num32 l + 4))).toNat := by
  have hle := le32_num32 l (by omega)
  generalize hn : num32 l = n at *
  have hlen : ((l.take (n + 4)).drop 4).length = n := by rw [List.length_drop, List.length_take]; omega
  have hcat : l.take 4 ++ (l.take (n + 4)).drop 4 = l.take (n + 4) := by
    have : (l.take (n + 4)).take 4 = l.take 4 := by rw [List.take_take, Nat.min_eq_left (by omega)]
    rw [← this, List.take_append_drop]
  have hs : sealO ((l.take (n + 4)).drop 4) = l.take (n + 4) ++ le32 (crcSum (l.take (n + 4))).toNat := by
    unfold sealO sealB
    rw [hlen, if_pos h1, hle, hcat]
  have ht : l.take (n + 8) = l.take (n + 4) ++ (l.drop (n + 4)).take 4 := by
    rw [show n + 8 = (n + 4) + 4 by omega, List.take_add]
  rw [hs, ht, List.append_cancel_left_eq]
  have hl4 : ((l.drop (n + 4)).take 4).length = 4 := by rw [List.length_take, List.length_drop]; omega
  have hx := (crcSum (l.take (n + 4))).toNat_lt
  generalize (crcSum (l.take (n + 4))).toNat = x at *
  have hnx := num32_le32 x (by omega) []
  rw [List.append_nil] at hnx
  rw [← num32_take (l.drop (n + 4))]
  constructor
  · intro h; rw [← h, hnx]
  · intro h; exact num32_inj rfl hl4 (by rw [hnx, h])
/-- What First answers: the body's value, and how long the frame is. -/
def RFirstPost (e8 : Nat) (w : World) (r : Option (List UInt8)) (e : Ending) (w' : World) : Prop :=
  ∃ v, e = .returned (.tuple #[v, .int .i64 (match r with | none => 0 | some b => (b.length : Int) + 8)]) ∧ Own kb e8 w' w.heap.size (fun _ => False) v (r.getD []) ∧ Below w.heap.size w w'

set_option maxHeartbeats 2000000 in
theorem RFirst_calls (A : Option Addr) (c : Nat) (l : List UInt8) (w : World) (hl : l.length ≤ 1099511627776) (hc : l.length ≤ c) (hm : c ≤ maxLen) (hr : Row kb w (fun k => k < w.heap.size) A l) :
    Calls Try.prog 19 #[.slice A l.length c] w (RFirstPost 5 w (firstO l)) := by
  have hm' := hm
  unfold maxLen at hm'
  have hno : ∀ w', Own kb 5 w' w.heap.size (fun _ => False) (.slice none 0 0) [] := fun _ => Own.nil _ _ _ _ _
  have Hno := Lib.hid hno
  clear hno
  by_cases h8 : 8 ≤ l.length
  · have hf : firstO l = if num32 l ≤ 262144 ∧ num32 l + 8 ≤ l.length ∧ num32 (l.drop (num32 l + 4)) = (crcSum (l.take (num32 l + 4))).toNat then some ((l.take (num32 l + 4)).drop 4) else none := by
      unfold firstO; simp only [h8, true_and]
    have Hf := Lib.hid hf
    clear hf
    have Hfs := Lib.hid (first_seal l h8)
    have hnl := num32_lt l
    obtain ⟨ad, rfl, c0⟩ := hr.u8_at 0 (by omega)
    obtain ⟨_, e1, c1⟩ := hr.u8_at 1 (by omega)
    cases e1
    obtain ⟨_, e1, c2⟩ := hr.u8_at 2 (by omega)
    cases e1
    obtain ⟨_, e1, c3⟩ := hr.u8_at 3 (by omega)
    cases e1
    have hnum : num32 l = l[0].toNat + 256 * l[1].toNat + 65536 * l[2].toNat + 16777216 * l[3].toNat := by simp [num32, List.getD, show 0 < l.length by omega, show 1 < l.length by omega, show 2 < l.length by omega, show 3 < l.length by omega]
    have b0 := l[0].toNat_lt
    have b1 := l[1].toNat_lt
    have b2 := l[2].toNat_lt
    have b3 := l[3].toNat_lt
    generalize num32 l = n at *
    generalize l[0].toNat = x0 at *
    generalize l[1].toNat = x1 at *
    generalize l[2].toNat = x2 at *
    generalize l[3].toNat = x3 at *
    rw [show ad.add 0 = ad from rfl] at c0
    rw [add_at ad 1 (by omega)] at c1
    rw [add_at ad 2 (by omega)] at c2
    rw [add_at ad 3 (by omega)] at c3
    have Hnum := Lib.hid hnum
    clear hnum
    go_enter Try.func19, Try.ntmps19
    go_upto_block 0 with fail
    go_cut [4] (fun s wx => s = .int .i64 n ∧ wx = w)
    case first =>
      go_wp2
      refine wp_loop_rounds 5 ?_
      rw [rounds_succ]
      go_wp2
      rw [rounds_succ]
      go_wp2
      rw [rounds_succ]
      go_wp2
      rw [rounds_succ]
      go_wp2
      rw [rounds_succ]
      go_wp2
      go_meet
      exact ⟨by rw [Hnum.out]; congr 1; omega, rfl⟩
    case rest =>
      obtain ⟨rfl, rfl⟩ := hcut
      clear c0 c1 c2 c3 Hnum b0 b1 b2 b3
      by_cases h1 : n ≤ 262144
      · by_cases h2 : n + 8 ≤ l.length
        · have hfo : firstO l = if sealO ((l.take (n + 4)).drop 4) = l.take (n + 8) then some ((l.take (n + 4)).drop 4) else none := by
            rw [Hf.out]
            by_cases h3 : num32 (l.drop (n + 4)) = (crcSum (l.take (n + 4))).toNat
            · rw [if_pos ⟨h1, h2, h3⟩, if_pos ((Hfs.out h1 h2).2 h3)]
            · rw [if_neg (fun h => h3 h.2.2), if_neg (fun h => h3 ((Hfs.out h1 h2).1 h))]
          have Hfo := Lib.hid hfo
          clear hfo Hf Hfs
          have hlen : ((l.take (n + 4)).drop 4).length = n := by rw [List.length_drop, List.length_take]; omega
          have hsl : Sl kb wc (fun k => k < wc.heap.size) (.slice (some ⟨ad.block, ad.off + 4, none⟩) (4 + n - 4) (c - 4)) ((l.take (n + 4)).drop 4) := by
            rw [show 4 + n - 4 = n by omega]
            have := (hr.take (n + 4)).drop 4
            rw [show kb.sz = 1 from rfl, Nat.mul_one, add_at _ _ (by omega)] at this
            exact ⟨_, c - 4, by rw [hlen], by omega, by omega, this⟩
          have hrt := hr.take (n + 8)
          have htl : (l.take (n + 8)).length = n + 8 := by rw [List.length_take]; omega
          generalize (l.take (n + 4)).drop 4 = q at *
          generalize l.take (n + 8) = z at *
          have Hlen := Lib.hid hlen
          have Htl := Lib.hid htl
          clear hlen htl
          have hnil := Own.nil kb 5 wc wc.heap.size (fun _ => False)
          go_wp2_with (at_builtin; go_must (refine app_flat kb flat_kb wc.heap.size rfl (.tmp 31) (.tmp 35) 24 5 1 rfl Try.underlying24 info_u8 (.slice none 0 0) _ [] q _ _ rfl rfl hnil hsl (by rw [Hlen.out, List.length_nil]; omega) (by rw [Hlen.out, List.length_nil]; simp only [maxLen]; omega) (Nat.le_refl _) ?_; intro v3 w3 ho hg ha3))
          rw [List.nil_append] at ho
          have HB := (Below.refl wc.heap.size wc).grown hg (Nat.le_refl _) (by intro k hk; cases hk)
          have hr3 := (hr.below HB).lt
          have hrt3 := (hrt.below HB).lt
          obtain ⟨A3, c3, e1, h13, hm3, hq3⟩ := ho.lt
          subst e1
          clear hsl hnil hg ha3 hrt
          go_upto_region 12 with fail
          refine wp_region_steps [.eq (.slice A3 q.length c3), .sl kb (sealO q), .eq (.string ⟨(sealO q).toArray⟩), .eq (.slice (some ad) l.length c), .eq (.int .i64 n), .eq (.int .i64 (n + 8)), .eq (.slice (some ad) (n + 8) c), .eq (.string ⟨z.toArray⟩), .eq (.bool (!(sealO q == z)))] (by kernel_rfl) (by kernel_rfl) (all_dst (by kernel_rfl)) ?_ ?_
          · refine ⟨?_, ?_, ?_, ?_, ?_, ?_, ?_, ?_, ?_, trivial⟩
            · intro S W K hE hf hd hK
              have f6 : S.tmps.getD 6 undef = .slice A3 q.length c3 := hf 6 (by kernel_rfl)
              refine want_free rfl ?_
              rw [Array.getD_eq_getD_getElem?] at f6
              go_simp
              exact hK _ _ (Ext.refl _) (fun _ => rfl)
            · intro S W K hE hf hd hK
              have d37 : S.tmps.getD 37 undef = (.slice A3 q.length c3) := hd 0 _ rfl (by kernel_rfl)
              refine want_free rfl ?_
              rw [Array.getD_eq_getD_getElem?] at d37
              go_simp
              refine (RSeal_calls A3 c3 q W (by rw [Hlen.out]; omega) h13 hm3 ((hq3.below hE).lt)).mono ?_
              rintro e W' ⟨v, rfl, hov, hb⟩
              exact hK _ _ hb (fun _ => IsSl.of hov.sl)
            · intro S W K hE hf hd hK
              obtain ⟨A38, c38, d38, l38, m38, r38⟩ := (show IsSl kb (sealO q) (S.tmps.getD 38 undef) W from hd 1 _ rfl (by kernel_rfl))
              refine want_free rfl ?_
              rw [Array.getD_eq_getD_getElem?] at d38
              have hcv := conv_str r38 24 9 5 c38 Try.underlying24 Try.underlying5 Try.underlying9
              go_simp
              exact hK _ _ (Ext.refl _) (fun _ => rfl)
            · intro S W K hE hf hd hK
              have f0 : S.tmps.getD 0 undef = .slice (some ad) l.length c := hf 0 (by kernel_rfl)
              refine want_free rfl ?_
              rw [Array.getD_eq_getD_getElem?] at f0
              go_simp
              exact hK _ _ (Ext.refl _) (fun _ => rfl)
            · intro S W K hE hf hd hK
              have f4 : S.tmps.getD 4 undef = .int .i64 n := hf 4 (by kernel_rfl)
              refine want_free rfl ?_
              rw [Array.getD_eq_getD_getElem?] at f4
              go_simp
              exact hK _ _ (Ext.refl _) (fun _ => rfl)
            · intro S W K hE hf hd hK
              have d41 : S.tmps.getD 41 undef = (.int .i64 n) := hd 4 _ rfl (by kernel_rfl)
              refine want_free rfl ?_
              rw [Array.getD_eq_getD_getElem?] at d41
              go_simp
              exact hK _ _ (Ext.refl _) (fun _ => congrArg (Value.int .i64) (IntWalk.i64_in _ (by omega)))
            · intro S W K hE hf hd hK
              have d40 : S.tmps.getD 40 undef = (.slice (some ad) l.length c) := hd 3 _ rfl (by kernel_rfl)
              have d42 : S.tmps.getD 42 undef = (.int .i64 (n + 8)) := hd 5 _ rfl (by kernel_rfl)
              refine want_free rfl ?_
              rw [Array.getD_eq_getD_getElem?] at d40 d42
              have hcut := slice_to (P := Try.prog) 24 5 Try.underlying24 (by kernel_rfl) (some ad) l.length c ((n : Int) + 8) (by omega) (by omega) W .i64
              rw [show ((n : Int) + 8).toNat = n + 8 by omega] at hcut
              go_simp
              exact hK _ _ (Ext.refl _) (fun _ => rfl)
            · intro S W K hE hf hd hK
              have d43 : S.tmps.getD 43 undef = (.slice (some ad) (n + 8) c) := hd 6 _ rfl (by kernel_rfl)
              refine want_free rfl ?_
              rw [Array.getD_eq_getD_getElem?] at d43
              have hcv := conv_str (hrt3.below hE) 24 9 5 c Try.underlying24 Try.underlying5 Try.underlying9
              rw [Htl.out] at hcv
              go_simp
              exact hK _ _ (Ext.refl _) (fun _ => rfl)
            · intro S W K hE hf hd hK
              have d39 : S.tmps.getD 39 undef = (.string ⟨(sealO q).toArray⟩) := hd 2 _ rfl (by kernel_rfl)
              have d44 : S.tmps.getD 44 undef = (.string ⟨z.toArray⟩) := hd 7 _ rfl (by kernel_rfl)
              refine want_free rfl ?_
              rw [Array.getD_eq_getD_getElem?] at d39 d44
              go_simp
              exact hK _ _ (Ext.refl _) (fun _ => rfl)
          · intro vs W hE hV
            have v0 : vs 0 = (.slice A3 q.length c3) := hV 0 _ rfl (fun h => by cases h)
            have v1 := hV 1 _ rfl (fun h => by cases h)
            have v2 : vs 2 = (.string ⟨(sealO q).toArray⟩) := hV 2 _ rfl (fun h => by cases h)
            have v3 : vs 3 = (.slice (some ad) l.length c) := hV 3 _ rfl (fun h => by cases h)
            have v4 : vs 4 = (.int .i64 n) := hV 4 _ rfl (fun h => by cases h)
            have v5 : vs 5 = (.int .i64 (n + 8)) := hV 5 _ rfl (fun h => by cases h)
            have v6 : vs 6 = (.slice (some ad) (n + 8) c) := hV 6 _ rfl (fun h => by cases h)
            have v7 : vs 7 = (.string ⟨z.toArray⟩) := hV 7 _ rfl (fun h => by cases h)
            have v8 : vs 8 = (.bool (!(sealO q == z))) := hV 8 _ rfl (fun h => by cases h)
            clear hV
            set_option maxRecDepth 100000 in simp only [putAll, List.map_cons, List.map_nil, List.length_cons, List.length_nil, Nat.reduceAdd, List.range_succ, List.range_zero, List.nil_append, List.cons_append]
            set_option maxRecDepth 100000 in go_simp
            have HB2 := HB.trans (hE.mono HB.size)
            have ho2 := ho.below hE
            clear v0 v1 v2 v3 v4 v5 v6 v7 v8
            by_cases hqz : sealO q = z
            · rw [if_pos hqz] at Hfo
              have e1 : (!(sealO q == z)) = false := by rw [hqz]; simp
              rw [e1]
              clear e1 hqz
              go_wp2
              go_ret2
              exact ⟨.slice A3 q.length c3, by rw [Hfo.out]; simp only [Hlen.out]; rfl, by rw [Hfo.out]; exact ho2, HB2⟩
            · rw [if_neg hqz] at Hfo
              have e1 : (!(sealO q == z)) = true := by simp [hqz]
              rw [e1]
              clear e1 hqz
              go_wp2
              go_ret2
              exact ⟨_, by rw [Hfo.out]; rfl, by rw [Hfo.out]; exact Hno.out _, HB2⟩
        · have hfo : firstO l = none := by rw [Hf.out, if_neg (by omega)]
          have Hfo := Lib.hid hfo
          clear hfo Hf Hfs
          go_wp2
          go_ret2
          exact ⟨_, by rw [Hfo.out]; rfl, by rw [Hfo.out]; exact Hno.out _, Below.refl _ _⟩
      · have hfo : firstO l = none := by rw [Hf.out, if_neg (by omega)]
        have Hfo := Lib.hid hfo
        clear hfo Hf Hfs
        go_wp2
        go_ret2
        exact ⟨_, by rw [Hfo.out]; rfl, by rw [Hfo.out]; exact Hno.out _, Below.refl _ _⟩
  · have hf : firstO l = none := by unfold firstO; rw [if_neg (by omega)]
    have Hf := Lib.hid hf
    clear hf
    go_enter Try.func19, Try.ntmps19
    go_wp2
    go_ret2
    exact ⟨_, by rw [Hf.out]; rfl, by rw [Hf.out]; exact Hno.out _, Below.refl _ _⟩

def RScanPost (eb : Nat) (w : World) (l : List UInt8) (e : Ending) (w' : World) : Prop := ScanPost eb w l e w'

set_option maxHeartbeats 2000000 in
theorem RScan_calls (A : Option Addr) (c : Nat) (l : List UInt8) (w : World) (hl : l.length ≤ 1099511627776) (hc : l.length ≤ c) (hm : c ≤ maxLen) (hr : Row kb w (fun k => k < w.heap.size) A l) :
    Calls Try.prog 22 #[.slice A l.length c] w (ScanPost 24 w l) := by
  have hm' := hm
  unfold maxLen at hm'
  go_enter Try.func22, Try.ntmps22
  go_wp2
  go_loopw [4, 5] (fun v i w' => ∃ (p : Nat) (xs : List (List UInt8)), p ≤ l.length ∧ i = .int .i64 p ∧ Own (slk kb) 24 w' w.heap.size (fr w.heap.size v) v xs ∧ Below w.heap.size w w' ∧ Hid (p = total xs) ∧ Hid (xs ++ scanL (l.drop p) = scanL l)) (fun _ i _ => l.length - (intOf i).toNat)
  case atStart => exact ⟨0, [], Nat.zero_le _, rfl, Own.nil _ _ _ _ _, Below.refl _ _, Lib.hid rfl, Lib.hid rfl⟩
  case round =>
    obtain ⟨p, xs, hp, rfl, hov, hB, Hp, Hs⟩ := hrel
    have hcut := slice_from (P := Try.prog) 24 5 1 Try.underlying24 size_u8 A l.length c (p : Int) (by omega) (by omega)
    simp only [Int.toNat_natCast] at hcut
    have hrow := (hr.belowF (fun _ h => h) hB).cut_from c p 1 rfl hp hc
    have hdl : (l.drop p).length = l.length - p := List.length_drop
    have hcall := RFirst_calls (cutA A c p 1) (c - p) (l.drop p) wr (by omega) (by omega) (by omega) hrow.lt
    rw [hdl] at hcall
    have Hcall := Lib.hid hcall
    clear hcall
    go_wp2_with fail
    refine Hcall.out.mono ?_
    rintro e w1 ⟨vb, rfl, hob, hb1⟩
    have hov1 := hov.below hb1
    have hB1 := hB.trans (hb1.mono hB.size)
    cases hf : firstO (l.drop p) with
    | none =>
      have hs : scanL l = xs := by rw [← Hs.out, scanL_none hf, List.append_nil]
      have Hsl := Lib.hid hs
      clear hs hf
      go_wp2
      go_ret2
      exact ⟨u4, by rw [Hsl.out, Hp.out]; rfl, by rw [Hsl.out]; exact hov1, hB1⟩
    | some b =>
      rw [hf] at hob
      obtain ⟨hle, hx, hle3⟩ := firstO_le hf
      clear hx
      rw [List.length_drop] at hle
      have hdd : (l.drop p).drop (b.length + 8) = l.drop (p + (b.length + 8)) := by rw [List.drop_drop]
      have hs : (xs ++ [b]) ++ scanL (l.drop (p + (b.length + 8))) = scanL l := by rw [← Hs.out, scanL_some hf, hdd, List.append_assoc]; rfl
      have Hsl := Lib.hid hs
      have htl := total_len xs
      have Htl := Lib.hid (show (xs.length + 1) * 24 ≤ 140737488355328 by have := Hp.out; omega)
      have Hdl := Lib.hid hdl
      clear hs hf hdd hdl
      obtain ⟨Ab, cb, rfl, hcb, _⟩ := hob.slice
      simp only [Option.getD] at hob ⊢
      have hslb : Sl kb w1 (fun k => (Value.slice Ab b.length cb).ownBlock = some k) (.slice Ab b.length cb) b := hob.sl.mono fun k hk => hk.resolve_left id
      have hz : ((b.length : Int) + 8 == 0) = false := by simp; omega
      go_wp2_with (at_builtin; go_must (refine app_nest1 (slk kb) rfl w.heap.size rfl (.tmp 19) (.tmp 21) 22 24 24 rfl Try.underlying22 info_bs u4 xs b w1.heap.size (.slice Ab b.length cb) rfl rfl (hov1.alloc _) (cell_new0 _ _ _) ⟨_, rfl, (hslb.alloc _).mono ?_⟩ Htl.out (by simp only [maxLen]; have := Htl.out; omega) (by have := hB1.size; simp; omega) ?_; (focus (intro k hk; have h1 := hob.at hk; have := hB.size; exact ⟨by omega, fun he => by have := hov.at he.symm; omega⟩)); intro v4 w4 ho4 hg ha4))
      go_roundw
      case rel => exact ⟨p + (b.length + 8), xs ++ [b], by omega, by go_num, ho4, (blw_alloc hB1 _).grown hg (by have := hB1.size; simp; omega) (fun k hk => (hov.at hk).1), Lib.hid (by rw [total_snoc, ← Hp.out]), Hsl⟩
      case measure => simp [intOf]; omega

set_option maxHeartbeats 2000000 in
theorem RSame_calls (A B : Option Addr) (ca cb : Nat) (xs ys : List (List UInt8)) (F G : Nat → Prop) (w : World) (hx : xs.length ≤ maxLen) (hy : ys.length ≤ maxLen) (hrx : Row (slk kb) w F A xs) (hry : Row (slk kb) w G B ys) :
    Calls Try.prog 23 #[.slice A xs.length ca, .slice B ys.length cb] w fun e w' => e = .returned (.bool (decide (xs = ys))) ∧ Ext w w' := by
  unfold maxLen at hx hy
  by_cases hlen : xs.length = ys.length
  · have Hlen := Lib.hid hlen
    have e1 : ((xs.length : Int) != (ys.length : Int)) = false := by simp; omega
    clear hlen
    go_enter Try.func23, Try.ntmps23
    go_wp2
    go_loopw [13] (fun i w' => ∃ k : Nat, k ≤ xs.length ∧ i = .int .i64 k ∧ Hid (xs.take k = ys.take k) ∧ Ext w w') (fun i _ => xs.length - (intOf i).toNat)
    case atStart => exact ⟨0, Nat.zero_le _, by rfl, Lib.hid rfl, Ext.refl _⟩
    case round =>
      obtain ⟨k, hk, rfl, Ht, hE0⟩ := hrel
      by_cases hlt : k < xs.length
      · have hlt2 : k < ys.length := by have := Hlen.out; omega
        obtain ⟨ad, A1, c1, rfl, hcell1, _, _, hrow1⟩ := (hrx.below hE0).sl_at k hlt
        obtain ⟨ad2, A2, c2, rfl, hcell2, _, _, hrow2⟩ := (hry.below hE0).sl_at k hlt2
        have Hs := Lib.hid (show xs[k] = ys[k] → xs.take (k + 1) = ys.take (k + 1) from fun heq => by rw [take_snoc _ _ hlt, take_snoc _ _ hlt2, Ht.out, heq])
        have Hd := Lib.hid (show xs[k] ≠ ys[k] → decide (xs = ys) = false from fun heq => decide_eq_false (fun h => heq (by subst h; rfl)))
        generalize xs[k] = x at *
        generalize ys[k] = y at *
        go_upto_region 6 with fail
        refine wp_region_steps [.eq (.slice (some ad) xs.length ca), .eq (.int .i64 k), .eq (.pointer (some (ad.add k))), .eq (.slice A1 x.length c1), .eq (.string ⟨x.toArray⟩), .eq (.slice (some ad2) ys.length cb), .eq (.int .i64 k), .eq (.pointer (some (ad2.add k))), .eq (.slice A2 y.length c2), .eq (.string ⟨y.toArray⟩), .eq (.bool (!(x == y)))] (by kernel_rfl) (by kernel_rfl) (all_dst (by kernel_rfl)) ?_ ?_
        · refine ⟨?_, ?_, ?_, ?_, ?_, ?_, ?_, ?_, ?_, ?_, ?_, trivial⟩
          · intro S W K hE hf hd hK
            have f0 : S.tmps.getD 0 undef = .slice (some ad) xs.length ca := hf 0 (by kernel_rfl)
            refine want_free rfl ?_
            rw [Array.getD_eq_getD_getElem?] at f0
            go_simp
            exact hK _ _ (Ext.refl _) (fun _ => rfl)
          · intro S W K hE hf hd hK
            have f5 : S.tmps.getD 5 undef = .int .i64 k := hf 5 (by kernel_rfl)
            refine want_free rfl ?_
            rw [Array.getD_eq_getD_getElem?] at f5
            go_simp
            exact hK _ _ (Ext.refl _) (fun _ => rfl)
          · intro S W K hE hf hd hK
            have d16 : S.tmps.getD 16 undef = (.slice (some ad) xs.length ca) := hd 0 _ rfl (by kernel_rfl)
            have d17 : S.tmps.getD 17 undef = (.int .i64 k) := hd 1 _ rfl (by kernel_rfl)
            refine want_free rfl ?_
            rw [Array.getD_eq_getD_getElem?] at d16 d17
            go_simp
            exact hK _ _ (Ext.refl _) (fun _ => rfl)
          · intro S W K hE hf hd hK
            have d18 : S.tmps.getD 18 undef = (.pointer (some (ad.add k))) := hd 2 _ rfl (by kernel_rfl)
            refine want_free rfl ?_
            rw [Array.getD_eq_getD_getElem?] at d18
            have hc := hE.cell hcell1
            go_simp
            exact hK _ _ (Ext.refl _) (fun _ => rfl)
          · intro S W K hE hf hd hK
            have d19 : S.tmps.getD 19 undef = (.slice A1 x.length c1) := hd 3 _ rfl (by kernel_rfl)
            refine want_free rfl ?_
            rw [Array.getD_eq_getD_getElem?] at d19
            have hcv := conv_str (hrow1.below hE) 24 9 5 c1 Try.underlying24 Try.underlying5 Try.underlying9
            go_simp
            exact hK _ _ (Ext.refl _) (fun _ => rfl)
          · intro S W K hE hf hd hK
            have f1 : S.tmps.getD 1 undef = .slice (some ad2) ys.length cb := hf 1 (by kernel_rfl)
            refine want_free rfl ?_
            rw [Array.getD_eq_getD_getElem?] at f1
            go_simp
            exact hK _ _ (Ext.refl _) (fun _ => rfl)
          · intro S W K hE hf hd hK
            have f5 : S.tmps.getD 5 undef = .int .i64 k := hf 5 (by kernel_rfl)
            refine want_free rfl ?_
            rw [Array.getD_eq_getD_getElem?] at f5
            go_simp
            exact hK _ _ (Ext.refl _) (fun _ => rfl)
          · intro S W K hE hf hd hK
            have d21 : S.tmps.getD 21 undef = (.slice (some ad2) ys.length cb) := hd 5 _ rfl (by kernel_rfl)
            have d22 : S.tmps.getD 22 undef = (.int .i64 k) := hd 6 _ rfl (by kernel_rfl)
            refine want_free rfl ?_
            rw [Array.getD_eq_getD_getElem?] at d21 d22
            go_simp
            exact hK _ _ (Ext.refl _) (fun _ => rfl)
          · intro S W K hE hf hd hK
            have d23 : S.tmps.getD 23 undef = (.pointer (some (ad2.add k))) := hd 7 _ rfl (by kernel_rfl)
            refine want_free rfl ?_
            rw [Array.getD_eq_getD_getElem?] at d23
            have hc := hE.cell hcell2
            go_simp
            exact hK _ _ (Ext.refl _) (fun _ => rfl)
          · intro S W K hE hf hd hK
            have d24 : S.tmps.getD 24 undef = (.slice A2 y.length c2) := hd 8 _ rfl (by kernel_rfl)
            refine want_free rfl ?_
            rw [Array.getD_eq_getD_getElem?] at d24
            have hcv := conv_str (hrow2.below hE) 24 9 5 c2 Try.underlying24 Try.underlying5 Try.underlying9
            go_simp
            exact hK _ _ (Ext.refl _) (fun _ => rfl)
          · intro S W K hE hf hd hK
            have d20 : S.tmps.getD 20 undef = (.string ⟨x.toArray⟩) := hd 4 _ rfl (by kernel_rfl)
            have d25 : S.tmps.getD 25 undef = (.string ⟨y.toArray⟩) := hd 9 _ rfl (by kernel_rfl)
            refine want_free rfl ?_
            rw [Array.getD_eq_getD_getElem?] at d20 d25
            go_simp
            exact hK _ _ (Ext.refl _) (fun _ => rfl)
        · intro vs W hE hV
          have v0 : vs 0 = (.slice (some ad) xs.length ca) := hV 0 _ rfl (fun h => by cases h)
          have v1 : vs 1 = (.int .i64 k) := hV 1 _ rfl (fun h => by cases h)
          have v2 : vs 2 = (.pointer (some (ad.add k))) := hV 2 _ rfl (fun h => by cases h)
          have v3 : vs 3 = (.slice A1 x.length c1) := hV 3 _ rfl (fun h => by cases h)
          have v4 : vs 4 = (.string ⟨x.toArray⟩) := hV 4 _ rfl (fun h => by cases h)
          have v5 : vs 5 = (.slice (some ad2) ys.length cb) := hV 5 _ rfl (fun h => by cases h)
          have v6 : vs 6 = (.int .i64 k) := hV 6 _ rfl (fun h => by cases h)
          have v7 : vs 7 = (.pointer (some (ad2.add k))) := hV 7 _ rfl (fun h => by cases h)
          have v8 : vs 8 = (.slice A2 y.length c2) := hV 8 _ rfl (fun h => by cases h)
          have v9 : vs 9 = (.string ⟨y.toArray⟩) := hV 9 _ rfl (fun h => by cases h)
          have v10 : vs 10 = (.bool (!(x == y))) := hV 10 _ rfl (fun h => by cases h)
          clear hV
          set_option maxRecDepth 100000 in simp only [putAll, List.map_cons, List.map_nil, List.length_cons, List.length_nil, Nat.reduceAdd, List.range_succ, List.range_zero, List.nil_append, List.cons_append]
          set_option maxRecDepth 100000 in go_simp
          clear v0 v1 v2 v3 v4 v5 v6 v7 v8 v9 v10
          have hE1 := Ext.trans _ _ _ hE0 hE
          by_cases heq : x = y
          · have e2 : (!(x == y)) = false := by rw [heq]; simp
            rw [e2]
            clear e2
            have Hs2 := Lib.hid (Hs.out heq)
            clear heq
            go_wp2
            go_roundw
            case rel => exact ⟨k + 1, hlt, by go_num, Hs2, hE1⟩
            case measure => simp [intOf]; omega
          · have e2 : (!(x == y)) = true := by simp [heq]
            rw [e2]
            clear e2
            have Hd2 := Lib.hid (Hd.out heq)
            clear heq
            go_wp2
            go_ret
            exact ⟨by rw [Hd2.out]; rfl, hE1⟩
      · have Hd := Lib.hid (show decide (xs = ys) = true from decide_eq_true (by
          have h1 : k = xs.length := by omega
          have h2 := Ht.out
          rw [h1, List.take_length, Hlen.out, List.take_length] at h2
          exact h2))
        go_wp2
        go_ret
        exact ⟨by rw [Hd.out]; rfl, hE0⟩
  · have Hd := Lib.hid (show decide (xs = ys) = false from decide_eq_false (fun h => hlen (by rw [h])))
    have e1 : ((xs.length : Int) != (ys.length : Int)) = true := by simp; omega
    go_enter Try.func23, Try.ntmps23
    go_wp2
    go_ret
    exact ⟨by rw [Hd.out]; rfl, Ext.refl _⟩
end Go.Proofs.Ytkmjcjhnfpkakaa
