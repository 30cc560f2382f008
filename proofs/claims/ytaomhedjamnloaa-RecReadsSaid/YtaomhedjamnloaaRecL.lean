/- Contract: the document's Encode. -/
import Derived.Test.YtaomhedjamnloaaRecE
import Derived.Test.YtaomhedjamnloaaRecJ
import Derived.Test.YtaomhedjamnloaaRWire1
import Derived.Deep.QuietTactic
import Derived.BigQuiet
import Derived.IntWalk
set_option linter.unusedVariables false
set_option linter.unusedSimpArgs false
namespace Go.Proofs.Ytaomhedjamnloaa
open Go Go.RowKit

def runB (k : Nat) (ak kk : ByteArray) (m : Nat) : Bool := decide (0 < k ∧ m < kk.size ∧ m < ak.size ∧ ak.data.toList[m]? = kk.data.toList[m]?)
theorem runB_no {k m : Nat} {ak kk : ByteArray} (h : runB k ak kk m = false) (h0 : k = 0 → ak = ⟨#[]⟩) (ht : ak.data.toList.take m = kk.data.toList.take m) (ha : m ≤ ak.size) (hk : m ≤ kk.size) : keyN ak kk = m := by
  have h1 := of_decide_eq_false h
  by_cases hb : m < kk.size ∧ m < ak.size
  · by_cases hz : k = 0
    · have := h0 hz
      subst this
      have : (⟨#[]⟩ : ByteArray).size = 0 := rfl
      omega
    · refine keyN_differ ht hb.2 hb.1 fun e => h1 ⟨by omega, hb.1, hb.2, ?_⟩
      have hla : ak.data.toList.length = ak.size := Array.length_toList
      have hlb : kk.data.toList.length = kk.size := Array.length_toList
      rw [List.getElem?_eq_getElem (by omega), List.getElem?_eq_getElem (by omega)]
      simpa [ByteArray.getElem_eq_getElem_data] using e
  · exact keyN_end ht (by omega)
theorem runB_yes {k m : Nat} {ak kk : ByteArray} (h : runB k ak kk m = true) (ht : ak.data.toList.take m = kk.data.toList.take m) : ak.data.toList.take (m + 1) = kk.data.toList.take (m + 1) ∧ m + 1 ≤ ak.size ∧ m + 1 ≤ kk.size := by
  obtain ⟨_, h1, h2, h3⟩ := of_decide_eq_true h
  have hla : ak.data.toList.length = ak.size := Array.length_toList
  have hlb : kk.data.toList.length = kk.size := Array.length_toList
  refine ⟨?_, by omega, by omega⟩
  rw [List.getElem?_eq_getElem (by omega), List.getElem?_eq_getElem (by omega)] at h3
  injection h3 with h3
  rw [List.take_succ_eq_append_getElem (by omega), List.take_succ_eq_append_getElem (l := kk.data.toList) (by omega), ht, h3]
theorem runB_at {k m : Nat} {ak kk : ByteArray} (hk : 0 < k) (h1 : m < kk.size) (h2 : m < ak.size) : runB k ak kk m = ((kk[m].toNat : Int) == (ak[m].toNat : Int)) := by
  have hla : ak.data.toList.length = ak.size := Array.length_toList
  have hlb : kk.data.toList.length = kk.size := Array.length_toList
  have hx : (ak.data.toList[m]? = kk.data.toList[m]?) ↔ kk[m] = ak[m] := by
    rw [List.getElem?_eq_getElem (by omega), List.getElem?_eq_getElem (by omega)]
    simp only [ByteArray.getElem_eq_getElem_data, Array.getElem_toList, Option.some.injEq]
    exact ⟨fun h => h.symm, fun h => h.symm⟩
  unfold runB
  rw [Bool.eq_iff_iff, decide_eq_true_iff, beq_iff_eq, hx]
  constructor
  · intro h
    rw [h.2.2.2]
  · intro h
    exact ⟨hk, h1, h2, UInt8.toNat_inj.1 (by exact_mod_cast h)⟩
def both2 (a b : Bool) : Bool := a && !b
theorem encB_parts2 (b : BtM) : encB b = (([1, UInt8.ofNat b.kind.toNat] ++ encN b.base.toNat) ++ encN b.pid.toNat) ++ ((if 0 < b.pid then encN b.epoch.toNat ++ (if markB b = true then [] else encN b.seq.toNat) else []) ++ (encN b.time.toNat ++ (if markB b = true then [] else encN b.l.length ++ encRs b.time ⟨#[]⟩ b.l))) := by
  unfold encB encHead
  simp [List.append_assoc]
set_option maxRecDepth 8000 in
set_option maxHeartbeats 800000 in
theorem Rencode_bad (w : World) (B : Nat) (hB : B ≤ w.heap.size) (b : BtM) (A : Option Addr) (c : Nat) (h : BtAt w B b A c) (hv : validE b ≠ 0) :
    Calls Try.prog 17 #[.agg (btC b A c)] w (EncPost w b) := by
  have Hv := Lib.hid (fun W (hE : Ext w W) => Rvalid_calls W B (Nat.le_trans hB hE.size) b A c (h.below (Below.mono hE hB)))
  have HE := Lib.hid (Ext.alloc w (.cells #[.int .i64 b.base, .int .i64 b.pid, .int .i64 b.epoch, .int .i64 b.seq, .int .i64 b.kind, .int .i64 b.time, .slice A b.l.length c] 24))
  have Hp := Lib.hid (BtObj.new w b A b.l.length c)
  have Henc := Lib.hid (show encOf b = [] from if_neg hv)
  clear h
  unfold EncPost
  generalize encOf b = L at *
  generalize validE b = v at *
  unfold btC at *
  generalize b.l.length = n at *
  go_enter Try.func17, Try.ntmps17
  go_upto_region 1 with fail
  generalize Value.agg #[.int .i64 b.base, .int .i64 b.pid, .int .i64 b.epoch, .int .i64 b.seq, .int .i64 b.kind, .int .i64 b.time, .slice A n c] = av
  generalize w.alloc (.cells #[.int .i64 b.base, .int .i64 b.pid, .int .i64 b.epoch, .int .i64 b.seq, .int .i64 b.kind, .int .i64 b.time, .slice A n c] 24) = w1 at *
  obtain ⟨k0, k1, k2, k3, k4, k5, k6⟩ := Hp.out.cells
  go_wp2_with fail
  refine (Hv.out w1 HE.out).mono ?_
  rintro e w2 ⟨rfl, hE2⟩
  have hne : decide (v = 0) = false := decide_eq_false hv
  go_wp2
  go_ret2
  rw [Henc.out]
  exact ⟨_, rfl, Own.nil _ _ _ _ _, Ext.trans _ _ _ HE.out hE2⟩
set_option maxRecDepth 8000 in
set_option maxHeartbeats 1600000 in
theorem Rencode_ok (w : World) (B : Nat) (hB : B ≤ w.heap.size) (b : BtM) (A : Option Addr) (c : Nat) (h : BtAt w B b A c) (hv : validE b = 0) :
    Calls Try.prog 17 #[.agg (btC b A c)] w (EncPost w b) := by
  have Hv := Lib.hid (fun W (hE : Ext w W) => Rvalid_calls W B (Nat.le_trans hB hE.size) b A c (h.below (Below.mono hE hB)))
  have Hm := Lib.hid (fun W => Rmark_calls W b A c)
  have HE := Lib.hid (Ext.alloc w (.cells #[.int .i64 b.base, .int .i64 b.pid, .int .i64 b.epoch, .int .i64 b.seq, .int .i64 b.kind, .int .i64 b.time, .slice A b.l.length c] 24))
  have Hp := Lib.hid (BtObj.new w b A b.l.length c)
  have Hrow := Lib.hid (fun W (hE : Ext w W) => h.row.belowF (fun _ hk => Nat.lt_of_lt_of_le hk hB) hE)
  have Henc := Lib.hid ((show encOf b = encB b from if_pos hv).trans (encB_parts2 b))
  have hf := (validE_iff b).1 hv
  obtain ⟨hk, hb, hpi, he, hs, ht⟩ := hf.nums
  have hl := hf.len
  have Hrs := Lib.hid hf.recs
  have Hmkl := Lib.hid hf.mark
  have hpm : 0 < b.pid ∨ markB b = false := by
    rcases Int.lt_or_le 0 b.pid with h | h
    · exact .inl h
    · have h0 : b.pid = 0 := by omega
      have := hf.fits
      unfold fitsB at this
      by_cases h1 : b.pid = 0 ∧ (b.kind ≠ 0 ∨ b.epoch ≠ 0 ∨ b.seq ≠ 0)
      · rw [if_pos h1] at this; cases this
      · have hk0 : b.kind = 0 := Decidable.of_not_not fun hs => h1 ⟨h0, .inl hs⟩
        refine .inr ?_
        unfold markB
        rw [hk0]
        rfl
  clear h hf
  unfold EncPost
  rw [hv] at Hv ⊢
  generalize encOf b = L at *
  generalize hmv : markB b = mk at *
  obtain ⟨base, pid, epoch, seq, kind, time, l⟩ := b
  simp only at *
  obtain ⟨base, rfl⟩ := Int.eq_ofNat_of_zero_le hb.1
  obtain ⟨pid, rfl⟩ := Int.eq_ofNat_of_zero_le hpi.1
  obtain ⟨epoch, rfl⟩ := Int.eq_ofNat_of_zero_le he.1
  obtain ⟨seq, rfl⟩ := Int.eq_ofNat_of_zero_le hs.1
  obtain ⟨kind, rfl⟩ := Int.eq_ofNat_of_zero_le hk.1
  obtain ⟨time, rfl⟩ := Int.eq_ofNat_of_zero_le ht.1
  simp only [Int.toNat_natCast] at Henc
  have hk := hk.2
  have hb := hb.2
  have hpi := hpi.2
  have he := he.2
  have hs := hs.2
  have ht := ht.2
  have HU := Lib.hid (fun (n : Nat) (hn : n < 18446744073709551616) W => RUint_calls n hn W)
  have kwb : IntKind.u64.wrap (base : Int) = base := wraps_u64 _ (by omega) (by omega)
  have kwp : IntKind.u64.wrap (pid : Int) = pid := wraps_u64 _ (by omega) (by omega)
  have kwk : IntKind.u8.wrap (kind : Int) = kind := wraps_u8 _ (by omega) (by omega)
  clear hmv
  unfold btC at *
  simp only at *
  generalize hnl : l.length = n at *
  have Hnl := Lib.hid hnl
  clear hnl
  go_enter Try.func17, Try.ntmps17
  go_upto_region 1 with fail
  generalize Value.agg #[.int .i64 base, .int .i64 pid, .int .i64 epoch, .int .i64 seq, .int .i64 kind, .int .i64 time, .slice A n c] = av
  generalize w.alloc (.cells #[.int .i64 base, .int .i64 pid, .int .i64 epoch, .int .i64 seq, .int .i64 kind, .int .i64 time, .slice A n c] 24) = w1 at *
  obtain ⟨k0, k1, k2, k3, k4, k5, k6⟩ := Hp.out.cells
  simp only at k0 k1 k2 k3 k4 k5 k6
  go_wp2_with fail
  refine (Hv.out w1 HE.out).mono ?_
  rintro e w2 ⟨rfl, hE2⟩
  clear k0 k1 k2 k3 k4 k5 k6
  have Hp2 := Lib.hid (fun W (hE : Ext w2 W) => Hp.out.ext (Ext.trans _ _ _ hE2 hE))
  have HE2 := Lib.hid (Ext.trans _ _ _ HE.out hE2)
  clear Hp Hv HE hE2
  have hlit := Own.lit (d := kb) (e := 5) w2 (Nat.le_refl _) (F := fun _ => False) [.int .u8 1, .int .u8 kind] [1, UInt8.ofNat kind] 2 rfl (by decide) ⟨[_], [_], rfl, rfl, ⟨rfl, trivial⟩, [_], [], rfl, rfl, kb_one _ _ kind (by omega), rfl⟩
  have Hlit := Lib.hid hlit
  have hE0 : Ext w2 (w2.alloc (.cells #[.int .u8 1, .int .u8 kind] 5)) := Ext.alloc _ _
  have kwe : IntKind.u64.wrap (epoch : Int) = epoch := wraps_u64 _ (by omega) (by omega)
  have kws : IntKind.u64.wrap (seq : Int) = seq := wraps_u64 _ (by omega) (by omega)
  have kwt : IntKind.u64.wrap (time : Int) = time := wraps_u64 _ (by omega) (by omega)
  have kwn : IntKind.u64.wrap (n : Int) = n := wraps_u64 _ (by omega) (by omega)
  have hbl := (encN_len base (by omega)).2
  have hpl := (encN_len pid (by omega)).2
  have hel := (encN_len epoch (by omega)).2
  have hsl := (encN_len seq (by omega)).2
  have htl := (encN_len time (by omega)).2
  have hnl3 := (encN_len n (by omega)).2
  have hs2 := HE2.out.size
  clear hlit
  obtain ⟨k0, k1, k2, k3, k4, k5, k6⟩ := (Hp2.out w2 (Ext.refl _)).cells
  simp only at k0 k1 k2 k3 k4 k5 k6
  go_upto_region 5 with fail
  obtain ⟨P0, hP0⟩ : ∃ P, P = [1, UInt8.ofNat kind] := ⟨_, rfl⟩
  have ho0 := Hlit.out
  rw [← hP0] at ho0
  have hl0 : P0.length ≤ 2 := by rw [hP0]; exact Nat.le_refl _
  have HP0 := Lib.hid hP0
  have Ho0 := Lib.hid ho0
  clear hP0 ho0 Hlit k0 k1 k2 k3 k4 k5 k6
  obtain ⟨k0, k1, k2, k3, k4, k5, k6⟩ := (Hp2.out _ hE0).cells
  simp only at k0 k1 k2 k3 k4 k5 k6
  have hHo := Lib.hid (And.intro Ho0.out hE0)
  generalize w2.alloc _ = w3 at *
  generalize Value.slice (some ⟨w2.heap.size, 0, none⟩) 2 2 = u5 at *
  clear Ho0 hE0
  go_wp2_with fail
  refine (HU.out base (by omega) _).mono ?_
  rintro e wa1 ⟨va1, rfl, hva1, hEa1⟩
  have hoa1 := (hHo.out.1).below hEa1
  have hEb1 := Ext.trans _ _ _ (hHo.out.2) hEa1
  have hsb1 := hEb1.size
  have hel1 : (encN base).length ≤ 10 := by assumption
  obtain ⟨A1, c1, e1, _, _⟩ := hoa1.slice
  subst e1
  obtain ⟨B1, d1, f1, _, _⟩ := hva1.slice
  subst f1
  clear k0 k1 k2 k3 k4 k5 k6
  go_wp2_with (at_builtin; go_must (refine app_flat kb flat_kb w2.heap.size rfl (.tmp 18) (.tmp 22) 31 5 1 rfl Try.underlying31 info_u8 (.slice A1 P0.length c1) (.slice B1 (encN base).length d1) P0 (encN base) (fun _ => False) _ rfl rfl hoa1 hva1.sl (by omega) (by simp only [maxLen]; omega) (by omega) ?_; intro vb1 wb1 hob1 hgb1 hab1; have hEc1 : Ext w2 wb1 := hEb1.grown hgb1 hsb1 (fun j hj => (hoa1.at hj).1); obtain ⟨k0, k1, k2, k3, k4, k5, k6⟩ := (Hp2.out _ hEc1).cells; have Hob1 := Lib.hid (And.intro hob1 hEc1); clear hob1 hgb1 hab1))
  have hlp1 : (P0 ++ encN base).length ≤ 2 + 10 := by rw [List.length_append]; omega
  generalize hPe1 : P0 ++ encN base = P1 at *
  have HPe1 := Lib.hid hPe1
  clear hPe1 hoa1 hva1 hEa1 hEb1
  refine (HU.out pid (by omega) _).mono ?_
  rintro e wa2 ⟨va2, rfl, hva2, hEa2⟩
  have hoa2 := (Hob1.out.1).below hEa2
  have hEb2 := Ext.trans _ _ _ (Hob1.out.2) hEa2
  have hsb2 := hEb2.size
  have hel2 : (encN pid).length ≤ 10 := by assumption
  obtain ⟨A2, c2, e2, _, _⟩ := hoa2.slice
  subst e2
  obtain ⟨B2, d2, f2, _, _⟩ := hva2.slice
  subst f2
  clear k0 k1 k2 k3 k4 k5 k6
  go_upto_if 32 with (at_builtin; go_must (refine app_flat kb flat_kb w2.heap.size rfl (.tmp 24) (.tmp 28) 31 5 1 rfl Try.underlying31 info_u8 (.slice A2 P1.length c2) (.slice B2 (encN pid).length d2) P1 (encN pid) (fun _ => False) _ rfl rfl hoa2 hva2.sl (by omega) (by simp only [maxLen]; omega) (by omega) ?_; intro vb2 wb2 hob2 hgb2 hab2; have hEc2 : Ext w2 wb2 := hEb2.grown hgb2 hsb2 (fun j hj => (hoa2.at hj).1); obtain ⟨k0, k1, k2, k3, k4, k5, k6⟩ := (Hp2.out _ hEc2).cells; have Hob2 := Lib.hid (And.intro hob2 hEc2); clear hob2 hgb2 hab2))
  have hlp2 : (P1 ++ encN pid).length ≤ 12 + 10 := by rw [List.length_append]; omega
  generalize hPe2 : P1 ++ encN pid = P2 at *
  have HPe2 := Lib.hid hPe2
  clear hPe2 hoa2 hva2 hEa2 hEb2
  go_cut [5] (fun v wx => ∃ l, l = (if 0 < (pid : Int) then encN epoch else []) ∧ Own kb 5 wx w2.heap.size (fun _ => False) v (P2 ++ l) ∧ l.length ≤ 10 ∧ Ext w2 wx)
  case first =>
    by_cases hp0 : 0 < (pid : Int)
    · have Hp0 := Lib.hid hp0
      go_wp2_with fail
      refine (HU.out epoch (by omega) _).mono ?_
      rintro e wa3 ⟨va3, rfl, hva3, hEa3⟩
      have hoa3 := (Hob2.out.1).below hEa3
      have hEb3 := Ext.trans _ _ _ (Hob2.out.2) hEa3
      have hsb3 := hEb3.size
      have hel3 : (encN epoch).length ≤ 10 := by assumption
      obtain ⟨A3, c3, e3, _, _⟩ := hoa3.slice
      subst e3
      obtain ⟨B3, d3, f3, _, _⟩ := hva3.slice
      subst f3
      clear k0 k1 k2 k3 k4 k5 k6
      go_wp2_with (at_builtin; go_must (refine app_flat kb flat_kb w2.heap.size rfl (.tmp 33) (.tmp 37) 31 5 1 rfl Try.underlying31 info_u8 (.slice A3 P2.length c3) (.slice B3 (encN epoch).length d3) P2 (encN epoch) (fun _ => False) _ rfl rfl hoa3 hva3.sl (by omega) (by simp only [maxLen]; omega) (by omega) ?_; intro vb3 wb3 hob3 hgb3 hab3; have hEc3 : Ext w2 wb3 := hEb3.grown hgb3 hsb3 (fun j hj => (hoa3.at hj).1); skip; have Hob3 := Lib.hid (And.intro hob3 hEc3); clear hob3 hgb3 hab3))
      have hlp3 : (P2 ++ encN epoch).length ≤ 22 + 10 := by rw [List.length_append]; omega
      generalize hPe3 : P2 ++ encN epoch = P3 at *
      have HPe3 := Lib.hid hPe3
      clear hPe3 hoa3 hva3 hEa3 hEb3
      go_meet
      exact ⟨_, rfl, by rw [if_pos Hp0.out, HPe3.out]; exact Hob3.out.1, by rw [if_pos Hp0.out]; exact hel, Hob3.out.2⟩
    · have Hp0 := Lib.hid hp0
      go_wp2
      go_meet
      exact ⟨_, rfl, by rw [if_neg (by have := Hp0.out; omega), List.append_nil]; exact Hob2.out.1, by rw [if_neg (by have := Hp0.out; omega)]; exact Nat.zero_le _, Hob2.out.2⟩
  case rest =>
    obtain ⟨l1, hl1, ho1, hll1, hE1⟩ := hcut
    have Hl1 := Lib.hid hl1
    have hs1 := hE1.size
    have hlq : (P2 ++ l1).length ≤ 32 := by rw [List.length_append]; omega
    generalize hPq : P2 ++ l1 = P3 at *
    have HPq := Lib.hid hPq
    clear hl1 k0 k1 k2 k3 k4 k5 k6 hPq
    obtain ⟨k0, k1, k2, k3, k4, k5, k6⟩ := (Hp2.out _ hE1).cells
    simp only at k0 k1 k2 k3 k4 k5 k6
    obtain ⟨ps, hps⟩ : ∃ ps, ps = both2 (decide (0 < (pid : Int))) mk := ⟨_, rfl⟩
    have Hps := Lib.hid hps
    clear hps
    go_upto_region 9 with fail
    go_cut [46] (fun v wx => v = .bool (both2 (decide (0 < (pid : Int))) mk) ∧ Ext wc wx)
    case first =>
      by_cases hp0 : 0 < (pid : Int)
      · have Hp0 := Lib.hid hp0
        go_wp2_with fail
        refine (Hm.out _).mono ?_
        rintro e w5 ⟨rfl, hE5⟩
        go_wp2
        go_meet
        exact ⟨by rw [decide_eq_true Hp0.out]; rfl, hE5⟩
      · have Hp0 := Lib.hid hp0
        go_wp2
        go_meet
        exact ⟨by rw [decide_eq_false (by have := Hp0.out; omega)]; rfl, Ext.refl _⟩
    case rest =>
      obtain ⟨rfl, hE5⟩ := hcut
      have ho5 := ho1.below hE5
      have hE15 := Ext.trans _ _ _ hE1 hE5
      have hHo5 := Lib.hid (And.intro ho5 hE15)
      clear ho5 hE15 ho1 hE1 hE5 k0 k1 k2 k3 k4 k5 k6
      obtain ⟨k0, k1, k2, k3, k4, k5, k6⟩ := (Hp2.out _ hHo5.out.2).cells
      simp only at k0 k1 k2 k3 k4 k5 k6
      go_upto_if 46 with fail
      go_cut [5] (fun v wx => ∃ l, l = (if ps = true then encN seq else []) ∧ Own kb 5 wx w2.heap.size (fun _ => False) v (P3 ++ l) ∧ l.length ≤ 10 ∧ Ext w2 wx)
      case first =>
        go_wp2_with fail
        · have hp0 : both2 (decide (0 < (pid : Int))) mk = true := by assumption
          have Hp0 := Lib.hid (Hps.out.trans hp0)
          clear hp0
          refine (HU.out seq (by omega) _).mono ?_
          rintro e wa4 ⟨va4, rfl, hva4, hEa4⟩
          have hoa4 := (hHo5.out.1).below hEa4
          have hEb4 := Ext.trans _ _ _ (hHo5.out.2) hEa4
          have hsb4 := hEb4.size
          have hel4 : (encN seq).length ≤ 10 := by assumption
          obtain ⟨A4, c4, e4, _, _⟩ := hoa4.slice
          subst e4
          obtain ⟨B4, d4, f4, _, _⟩ := hva4.slice
          subst f4
          clear k0 k1 k2 k3 k4 k5 k6
          go_wp2_with (at_builtin; go_must (refine app_flat kb flat_kb w2.heap.size rfl (.tmp 47) (.tmp 51) 31 5 1 rfl Try.underlying31 info_u8 (.slice A4 P3.length c4) (.slice B4 (encN seq).length d4) P3 (encN seq) (fun _ => False) _ rfl rfl hoa4 hva4.sl (by omega) (by simp only [maxLen]; omega) (by omega) ?_; intro vb4 wb4 hob4 hgb4 hab4; have hEc4 : Ext w2 wb4 := hEb4.grown hgb4 hsb4 (fun j hj => (hoa4.at hj).1); skip; have Hob4 := Lib.hid (And.intro hob4 hEc4); clear hob4 hgb4 hab4))
          have hlp4 : (P3 ++ encN seq).length ≤ 32 + 10 := by rw [List.length_append]; omega
          generalize hPe4 : P3 ++ encN seq = P4 at *
          have HPe4 := Lib.hid hPe4
          clear hPe4 hoa4 hva4 hEa4 hEb4
          go_meet
          exact ⟨_, rfl, by rw [if_pos Hp0.out, HPe4.out]; exact Hob4.out.1, by rw [if_pos Hp0.out]; exact hsl, Hob4.out.2⟩
        · have hp1 : both2 (decide (0 < (pid : Int))) mk = false := by assumption
          have Hp0 := Lib.hid (Hps.out.trans hp1)
          clear hp1
          go_meet
          exact ⟨[], by rw [Hp0.out, if_neg (by decide)], by rw [List.append_nil]; exact hHo5.out.1, Nat.zero_le _, hHo5.out.2⟩
      case rest =>
        obtain ⟨l2, hl2, ho6, hll2, hE6⟩ := hcut
        have Hl2 := Lib.hid hl2
        have hs6 := hE6.size
        have hlr : (P3 ++ l2).length ≤ 42 := by rw [List.length_append]; omega
        generalize hPr : P3 ++ l2 = P4 at *
        have HPr := Lib.hid hPr
        have hHo6 := Lib.hid (And.intro ho6 hE6)
        clear hl2 k0 k1 k2 k3 k4 k5 k6 hPr hHo5 ho6 hE6
        obtain ⟨k0, k1, k2, k3, k4, k5, k6⟩ := (Hp2.out _ hHo6.out.2).cells
        simp only at k0 k1 k2 k3 k4 k5 k6
        go_wp2_with fail
        refine (HU.out time (by omega) _).mono ?_
        rintro e wa5 ⟨va5, rfl, hva5, hEa5⟩
        have hoa5 := (hHo6.out.1).below hEa5
        have hEb5 := Ext.trans _ _ _ (hHo6.out.2) hEa5
        have hsb5 := hEb5.size
        have hel5 : (encN time).length ≤ 10 := by assumption
        obtain ⟨A5, c5, e5, _, _⟩ := hoa5.slice
        subst e5
        obtain ⟨B5, d5, f5, _, _⟩ := hva5.slice
        subst f5
        clear k0 k1 k2 k3 k4 k5 k6
        go_wp2_with (at_builtin; go_must (refine app_flat kb flat_kb w2.heap.size rfl (.tmp 53) (.tmp 57) 31 5 1 rfl Try.underlying31 info_u8 (.slice A5 P4.length c5) (.slice B5 (encN time).length d5) P4 (encN time) (fun _ => False) _ rfl rfl hoa5 hva5.sl (by omega) (by simp only [maxLen]; omega) (by omega) ?_; intro vb5 wb5 hob5 hgb5 hab5; have hEc5 : Ext w2 wb5 := hEb5.grown hgb5 hsb5 (fun j hj => (hoa5.at hj).1); obtain ⟨k0, k1, k2, k3, k4, k5, k6⟩ := (Hp2.out _ hEc5).cells; have Hob5 := Lib.hid (And.intro hob5 hEc5); clear hob5 hgb5 hab5))
        have hlp5 : (P4 ++ encN time).length ≤ 42 + 10 := by rw [List.length_append]; omega
        generalize hPe5 : P4 ++ encN time = P5 at *
        have HPe5 := Lib.hid hPe5
        clear hPe5 hoa5 hva5 hEa5 hEb5
        refine (Hm.out _).mono ?_
        rintro e w7 ⟨rfl, hE7⟩
        have hE17 := Ext.trans _ _ _ Hob5.out.2 hE7
        have ho7 := (Hob5.out.1).below hE7
        have Hmid := Lib.hid (show (if 0 < (pid : Int) then encN epoch ++ (if mk = true then [] else encN seq) else []) = l1 ++ l2 from by
          rw [Hl1.out, Hl2.out, Hps.out]
          unfold both2
          by_cases hp0 : 0 < (pid : Int)
          · rw [if_pos hp0, if_pos hp0, decide_eq_true hp0]
            cases mk <;> simp
          · rw [if_neg hp0, if_neg hp0, decide_eq_false hp0]
            rfl)
        have Hhd := Lib.hid (show L = P5 ++ (if mk = true then [] else encN n ++ encRs (time : Int) ⟨#[]⟩ l) from by
          rw [Henc.out, Hmid.out, ← HPe5.out, ← HPr.out, ← HPq.out, ← HPe2.out, ← HPe1.out, HP0.out]
          simp only [List.append_assoc])
        clear k0 k1 k2 k3 k4 k5 k6 Hmid Hl1 Hl2 Henc
        cases mk with
        | true =>
          go_wp2
          go_ret2
          refine ⟨_, rfl, ?_, Ext.trans _ _ _ HE2.out hE17⟩
          rw [Hhd.out, if_pos (by trivial), List.append_nil]
          exact ho7.lower HE2.out.size
        | false =>
          have Hhd1 := Lib.hid (Hhd.out.trans (by rw [if_neg (by decide)]))
          have hHo7 := Lib.hid (And.intro ho7 hE17)
          clear ho7 hE17 Hhd hE7
          obtain ⟨k0, k1, k2, k3, k4, k5, k6⟩ := (Hp2.out _ hHo7.out.2).cells
          simp only at k0 k1 k2 k3 k4 k5 k6
          go_wp2_with fail
          refine (HU.out n (by omega) _).mono ?_
          rintro e wa6 ⟨va6, rfl, hva6, hEa6⟩
          have hoa6 := (hHo7.out.1).below hEa6
          have hEb6 := Ext.trans _ _ _ (hHo7.out.2) hEa6
          have hsb6 := hEb6.size
          have hel6 : (encN n).length ≤ 10 := by assumption
          obtain ⟨A6, c6, e6, _, _⟩ := hoa6.slice
          subst e6
          obtain ⟨B6, d6, f6, _, _⟩ := hva6.slice
          subst f6
          clear k0 k1 k2 k3 k4 k5 k6
          go_wp2_with (at_builtin; go_must (refine app_flat kb flat_kb w2.heap.size rfl (.tmp 62) (.tmp 67) 31 5 1 rfl Try.underlying31 info_u8 (.slice A6 P5.length c6) (.slice B6 (encN n).length d6) P5 (encN n) (fun _ => False) _ rfl rfl hoa6 hva6.sl (by omega) (by simp only [maxLen]; omega) (by omega) ?_; intro vb6 wb6 hob6 hgb6 hab6; have hEc6 : Ext w2 wb6 := hEb6.grown hgb6 hsb6 (fun j hj => (hoa6.at hj).1); obtain ⟨k0, k1, k2, k3, k4, k5, k6⟩ := (Hp2.out _ hEc6).cells; have Hob6 := Lib.hid (And.intro hob6 hEc6); clear hob6 hgb6 hab6))
          have hlp6 : (P5 ++ encN n).length ≤ 52 + 10 := by rw [List.length_append]; omega
          generalize hPe6 : P5 ++ encN n = P6 at *
          have HPe6 := Lib.hid hPe6
          clear hPe6 hoa6 hva6 hEa6 hEb6
          have Hhd2 := Lib.hid (show L = P6 ++ encRs (time : Int) ⟨#[]⟩ l from by rw [Hhd1.out, ← List.append_assoc, HPe6.out])
          have Hln := Lib.hid (fun k => Nat.le_trans (encRs_len (time : Int) ⟨by omega, ht⟩ (l.take k) ⟨#[]⟩ (recsE_take l k Hrs.out)) (Nat.mul_le_mul_left 2200 (List.length_take_le k l)))
          clear Hhd1 k0 k1 k2 k3 k4 k5 k6
          go_loopw [5, 72] (fun o i wr => ∃ k : Nat, k ≤ n ∧ i = .int .i64 k ∧ Own kb 5 wr w2.heap.size (fun _ => False) o (P6 ++ encRs (time : Int) ⟨#[]⟩ (l.take k)) ∧ Ext w2 wr) (fun _ i _ => n - (intOf i).toNat)
          case atStart => exact ⟨0, Nat.zero_le _, rfl, by rw [List.take_zero, encRs, List.append_nil]; exact Hob6.out.1, Hob6.out.2⟩
          case round =>
            obtain ⟨k, hk2, rfl, ho, hEr⟩ := hrel
            have hEw := Ext.trans _ _ _ HE2.out hEr
            have hsr := hEr.size
            by_cases hlt : k < n
            · have hlt2 : k < l.length := by rw [Hnl.out]; exact hlt
              obtain ⟨ad, rfl, hcc, hro⟩ := rec_at (Hrow.out wr hEw) k hlt2
              have hr0 := recsE_ok Hrs.out l[k] (List.getElem_mem _)
              have Hsn := Lib.hid (show encRs (time : Int) ⟨#[]⟩ (l.take (k + 1)) = encRs (time : Int) ⟨#[]⟩ (l.take k) ++ encR (time : Int) (lastK ⟨#[]⟩ (l.take k)) l[k] from by rw [List.take_succ_eq_append_getElem hlt2, encRs_snoc])
              have hak := lastK_size (l.take k) ⟨#[]⟩ (recsE_take l k Hrs.out) (Nat.zero_le _)
              have Hak0 : Hid (k = 0 → lastK ⟨#[]⟩ (l.take k) = ⟨#[]⟩) := Lib.hid fun h => by rw [h]; rfl
              have Hak1 : Hid (∀ k', k = k' + 1 → ∃ h : k' < l.length, lastK ⟨#[]⟩ (l.take k) = (l[k']'h).1) := Lib.hid fun k' h => by
                have hk' : k' < l.length := by omega
                exact ⟨hk', by rw [h, List.take_succ_eq_append_getElem hk', lastK_snoc]⟩
              have hln := Hln.out k
              have hrl := encR_len (time : Int) (lastK ⟨#[]⟩ (l.take k)) l[k] hr0 ⟨by omega, ht⟩
              have hmeas := Lib.hid (@meas_up k n hlt)
              generalize encRs (time : Int) ⟨#[]⟩ (l.take k) = Pk at *
              generalize lastK ⟨#[]⟩ (l.take k) = ak at *
              generalize l[k] = r at *
              obtain ⟨kk, vv, gg, tt⟩ := r
              obtain ⟨c0, c1, c2, c3⟩ := hcc
              obtain ⟨r1, r2, r3, r4, r5⟩ := recE_ok hr0
              simp only at c0 c1 c2 c3 r1 r2 r3 r4 r5
              have Her := Lib.hid (show encR (time : Int) ak (kk, vv, gg, tt) = encN (zig (tt - time)) ++ ([if gg then 1 else 0] ++ (encN (keyN ak kk) ++ (encT (kk.extract (keyN ak kk) kk.size) ++ (if gg then [] else encT vv)))) from by
                unfold encR
                simp only [cutK_ext])
              have hkn := keyN_le ak kk
              have hPl : (P6 ++ Pk).length ≤ 62 + 2200 * 64 := by
                rw [List.length_append]
                have : (l.take k).length ≤ 64 := by rw [List.length_take]; omega
                omega
              generalize hPg : P6 ++ Pk = Q0 at *
              have HPg := Lib.hid hPg
              have hat0 := Lib.hid (fun j (hj : u5.ownBlock = some j) => (show j ≠ wr.heap.size from by have := (ho.at hj).2; omega))
              obtain ⟨h81, h82, h83⟩ := one_new wr (.cells #[.string kk, .string vv, .bool gg, .int .i64 tt] 54)
              have Hq8 := Lib.hid (fun W (hE : Ext (wr.alloc (.cells #[.string kk, .string vv, .bool gg, .int .i64 tt] 54)) W) => (hE.block wr.heap.size (by omega)).trans h81)
              have hEr8 := Ext.trans _ _ _ hEr h82
              have Hrow8 := Lib.hid (fun W (hE : Ext (wr.alloc (.cells #[.string kk, .string vv, .bool gg, .int .i64 tt] 54)) W) => Hrow.out W (Ext.trans _ _ _ HE2.out (Ext.trans _ _ _ hEr8 hE)))
              have Ho8 := Lib.hid (ho.below h82)
              have HE8 := Lib.hid hEr8
              clear hPg hro hr0 Hln h81 h82 hEr8 ho
              go_wp2_with fail
              generalize hw8 : wr.alloc _ = w8 at *
              generalize hb8 : wr.heap.size = b8 at *
              clear hw8 hb8
              have hkkz : kk.size ≤ 1024 := by omega
              go_loopw [8] (fun i wx => ∃ m : Nat, i = .int .i64 m ∧ Hid (ak.data.toList.take m = kk.data.toList.take m ∧ m ≤ ak.size ∧ m ≤ kk.size) ∧ Ext w8 wx) (fun i _ => kk.size - (intOf i).toNat)
              case atStart => exact ⟨0, rfl, Lib.hid ⟨rfl, Nat.zero_le _, Nat.zero_le _⟩, Ext.refl _⟩
              case round =>
                obtain ⟨m, rfl, Hr, hE9⟩ := hrel
                obtain ⟨hr1, hr2, hr3⟩ := Hr.out
                have Hr1 := Lib.hid hr1
                have HE9 := Lib.hid hE9
                clear hr1
                have q0 := (cell_of (Hq8.out _ hE9) 0).trans rfl
                obtain ⟨k0, k1, k2, k3, k4, k5, k6⟩ := (Hp2.out _ (Ext.trans _ _ _ HE8.out hE9)).cells
                simp only at k0 k1 k2 k3 k4 k5 k6
                have Hmm := Lib.hid (@meas_up m kk.size)
                go_upto_region 19 with fail
                go_cut [113] (fun v wx => v = .bool (runB k ak kk m) ∧ Ext w8 wx)
                case first =>
                  rename_i J K' hJ hK'
                  rcases Nat.eq_zero_or_pos k with hz | hz
                  · have hkd : decide (0 < (k : Int)) = false := by rw [hz]; rfl
                    have hkd2 : decide (0 < k) = false := by rw [hz]; rfl
                    have Hrb := Lib.hid (show runB k ak kk m = false from by unfold runB; rw [hz]; simp)
                    clear hz
                    go_quiet (fail)
                    refine hK' _ _ (Met.intro (hJ _ _ ?_))
                    repeat apply Exists.intro
                    refine ⟨?rel1, rfl⟩
                    exact ⟨by rw [Hrb.out], blw_drewN HE9.out _⟩
                  · obtain ⟨k', hk'⟩ : ∃ k', k = k' + 1 := ⟨k - 1, by omega⟩
                    have hkd : (0 : Int) < (k : Int) := by omega
                    have hkd2 : 0 < k := hz
                    have hkw : IntKind.i64.wrap ((k : Int) - 1) = (k' : Int) := by rw [hk', show (((k' + 1 : Nat) : Int) - 1) = (k' : Int) from by omega]; exact Go.IntWalk.i64_in _ ⟨by omega, by omega⟩
                    obtain ⟨hk'l, hake⟩ := Hak1.out k' hk'
                    obtain ⟨ad', had, hcc', _⟩ := rec_at (Hrow8.out _ HE9.out) k' hk'l
                    obtain rfl := Option.some.inj had
                    obtain ⟨e0, _, _, _⟩ := hcc'
                    rw [← hake] at e0
                    have hk'n : (k' : Int) < (n : Int) := by omega
                    have Hz := Lib.hid hz
                    clear hk' had hake hz
                    by_cases h1 : m < kk.size
                    · have hd1 : (m : Int) < (kk.size : Int) := by omega
                      by_cases h2 : m < ak.size
                      · have hd2 : (m : Int) < (ak.size : Int) := by omega
                        have Hrb := Lib.hid (runB_at Hz.out h1 h2)
                        go_quiet (fail)
                        refine hK' _ _ (Met.intro (hJ _ _ ?_))
                        repeat apply Exists.intro
                        refine ⟨?rel2, rfl⟩
                        exact ⟨by rw [Hrb.out], blw_drewN HE9.out _⟩
                      · have hd2 : decide ((m : Int) < (ak.size : Int)) = false := decide_eq_false (by omega)
                        have hd2n : decide (m < ak.size) = false := decide_eq_false h2
                        have Hrb := Lib.hid (show runB k ak kk m = false from decide_eq_false fun h => h2 h.2.2.1)
                        clear h2
                        go_quiet (fail)
                        refine hK' _ _ (Met.intro (hJ _ _ ?_))
                        repeat apply Exists.intro
                        refine ⟨?rel3, rfl⟩
                        exact ⟨by rw [Hrb.out], blw_drewN HE9.out _⟩
                    · have hd1 : decide ((m : Int) < (kk.size : Int)) = false := decide_eq_false (by omega)
                      have hd1n : decide (m < kk.size) = false := decide_eq_false h1
                      have Hrb := Lib.hid (show runB k ak kk m = false from decide_eq_false fun h => h1 h.2.1)
                      clear h1
                      go_quiet (fail)
                      refine hK' _ _ (Met.intro (hJ _ _ ?_))
                      repeat apply Exists.intro
                      refine ⟨?rel4, rfl⟩
                      exact ⟨by rw [Hrb.out], blw_drewN HE9.out _⟩
                case rest =>
                  obtain ⟨rfl, hE10⟩ := hcut
                  have HE10 := Lib.hid hE10
                  have hE28 := Ext.trans _ _ _ HE8.out hE10
                  have hs28 := hE28.size
                  clear q0
                  have q0 := (cell_of (Hq8.out _ hE10) 0).trans rfl
                  have q1 := (cell_of (Hq8.out _ hE10) 1).trans rfl
                  have q2 := (cell_of (Hq8.out _ hE10) 2).trans rfl
                  have q3 := (cell_of (Hq8.out _ hE10) 3).trans rfl
                  clear k0 k1 k2 k3 k4 k5 k6
                  obtain ⟨k0, k1, k2, k3, k4, k5, k6⟩ := (Hp2.out _ hE28).cells
                  simp only at k0 k1 k2 k3 k4 k5 k6
                  have hq10 := Hq8.out _ hE10
                  have ho10 := Ho8.out.below hE10
                  have Hst := Lib.hid (And.intro ho10 hE28)
                  have Hqb := Lib.hid hq10
                  have kwd : IntKind.i64.wrap (tt - (time : Int)) = tt - (time : Int) := IntWalk.i64_in _ ⟨by omega, by omega⟩
                  have kwm : IntKind.i64.wrap ((m : Int) + 1) = (m : Int) + 1 := IntWalk.i64_in _ ⟨by omega, by omega⟩
                  have kwx : IntKind.u64.wrap (m : Int) = m := wraps_u64 _ (by omega) (by omega)
                  have HI := Lib.hid (fun W => RInt_calls (tt - time) (by omega) W)
                  have HF := Lib.hid (fun W => RFlag_calls gg W)
                  have hxs : (kk.extract m kk.size).size ≤ 1024 := by rw [ByteArray.size_extract]; omega
                  have hxl := encT_size (kk.extract m kk.size) (by omega)
                  have hvl := encT_size vv (by omega)
                  have hil := (encN_len (zig (tt - time)) (zig_lt (by omega))).2
                  have hkl := (encN_len m (by omega)).2
                  have HT := Lib.hid (fun W => RText_calls (kk.extract m kk.size) (by omega) W)
                  have HV := Lib.hid (fun W => RText_calls vv (by omega) W)
                  clear hq10 ho10 hE9 hE10 hE28
                  go_wp2_with fail
                  · have hy : runB k ak kk m = true := by assumption
                    obtain ⟨y1, y2, y3⟩ := runB_yes hy Hr1.out
                    refine ⟨⟨m + 1, by rw [Int.natCast_succ], Lib.hid ⟨y1, y2, y3⟩, HE10.out⟩, Hmm.out (by omega)⟩
                  · have hno := runB_no (by assumption) Hak0.out Hr1.out hr2 hr3
                    have Hem := Lib.hid (show encR (time : Int) ak (kk, vv, gg, tt) = encN (zig (tt - time)) ++ ([if gg then (1 : UInt8) else 0] ++ (encN m ++ (encT (kk.extract m kk.size) ++ (if gg then [] else encT vv)))) from by rw [Her.out, hno])
                    clear hno Her
                    refine (HI.out _).mono ?_
                    rintro e wa7 ⟨va7, rfl, hva7, hEa7⟩
                    have hoa7 := (Hst.out.1).below hEa7
                    have hEb7 := Ext.trans _ _ _ (Hst.out.2) hEa7
                    have hsb7 := hEb7.size
                    have hqa7 := (hEa7.block b8 (Array.getElem?_eq_some_iff.1 (Hqb.out)).1).trans (Hqb.out)
                    have hel7 : (encN (zig (tt - time))).length ≤ 10 := by assumption
                    obtain ⟨A7, c7, e7, _, _⟩ := hoa7.slice
                    subst e7
                    obtain ⟨B7, d7, f7, _, _⟩ := hva7.slice
                    subst f7
                    clear k0 k1 k2 k3 k4 k5 k6 q0 q1 q2 q3
                    go_wp2_with (at_builtin; go_must (refine app_flat kb flat_kb w2.heap.size rfl (.tmp 116) (.tmp 122) 31 5 1 rfl Try.underlying31 info_u8 (.slice A7 Q0.length c7) (.slice B7 (encN (zig (tt - time))).length d7) Q0 (encN (zig (tt - time))) (fun _ => False) _ rfl rfl hoa7 hva7.sl (by omega) (by simp only [maxLen]; omega) (by omega) ?_; intro vb7 wb7 hob7 hgb7 hab7; have hEc7 : Ext w2 wb7 := hEb7.grown hgb7 hsb7 (fun j hj => (hoa7.at hj).1); have hqb7 := (hgb7.block b8 (Array.getElem?_eq_some_iff.1 hqa7).1 (fun e => absurd rfl (hat0.out _ e.symm))).trans hqa7; have q0 := (cell_of hqb7 0).trans rfl; have q1 := (cell_of hqb7 1).trans rfl; have q2 := (cell_of hqb7 2).trans rfl; have q3 := (cell_of hqb7 3).trans rfl; have Hq7 := Lib.hid hqb7; have hat7 : ∀ j, vb7.ownBlock = some j → j ≠ b8 := (fun j hj => by rcases hab7 with h | h; (· rw [h] at hj; exact hat0.out j hj); (· rw [h] at hj; injection hj with hj; have := (Array.getElem?_eq_some_iff.1 hqa7).1; omega)); have Hat7 := Lib.hid hat7; clear hqb7 hat7; have Hob7 := Lib.hid (And.intro hob7 hEc7); clear hob7 hgb7 hab7))
                    have hlp7 : (Q0 ++ encN (zig (tt - time))).length ≤ (62 + 2200 * 64) + 10 := by rw [List.length_append]; omega
                    generalize hPe7 : Q0 ++ encN (zig (tt - time)) = Q1 at *
                    have HPe7 := Lib.hid hPe7
                    clear hPe7 hqa7 hoa7 hva7 hEa7 hEb7
                    refine (HF.out _).mono ?_
                    rintro e wa8 ⟨va8, rfl, hva8, hEa8⟩
                    have hoa8 := (Hob7.out.1).below hEa8
                    have hEb8 := Ext.trans _ _ _ (Hob7.out.2) hEa8
                    have hsb8 := hEb8.size
                    have hqa8 := (hEa8.block b8 (Array.getElem?_eq_some_iff.1 (Hq7.out)).1).trans (Hq7.out)
                    have hel8 : ([if gg then (1 : UInt8) else 0]).length ≤ 1 := by exact Nat.le_refl _
                    obtain ⟨A8, c8, e8, _, _⟩ := hoa8.slice
                    subst e8
                    obtain ⟨B8, d8, f8, _, _⟩ := hva8.slice
                    subst f8
                    clear q0 q1 q2
                    go_wp2_with (at_builtin; go_must (refine app_flat kb flat_kb w2.heap.size rfl (.tmp 124) (.tmp 127) 31 5 1 rfl Try.underlying31 info_u8 (.slice A8 Q1.length c8) (.slice B8 ([if gg then (1 : UInt8) else 0]).length d8) Q1 ([if gg then (1 : UInt8) else 0]) (fun _ => False) _ rfl rfl hoa8 hva8.sl (by omega) (by simp only [maxLen]; omega) (by omega) ?_; intro vb8 wb8 hob8 hgb8 hab8; have hEc8 : Ext w2 wb8 := hEb8.grown hgb8 hsb8 (fun j hj => (hoa8.at hj).1); have hqb8 := (hgb8.block b8 (Array.getElem?_eq_some_iff.1 hqa8).1 (fun e => absurd rfl (Hat7.out _ e.symm))).trans hqa8; have q0 := (cell_of hqb8 0).trans rfl; have q1 := (cell_of hqb8 1).trans rfl; have q2 := (cell_of hqb8 2).trans rfl; have q3 := (cell_of hqb8 3).trans rfl; have Hq8 := Lib.hid hqb8; have hat8 : ∀ j, vb8.ownBlock = some j → j ≠ b8 := (fun j hj => by rcases hab8 with h | h; (· rw [h] at hj; exact Hat7.out j hj); (· rw [h] at hj; injection hj with hj; have := (Array.getElem?_eq_some_iff.1 hqa8).1; omega)); have Hat8 := Lib.hid hat8; clear hqb8 hat8; have Hob8 := Lib.hid (And.intro hob8 hEc8); clear hob8 hgb8 hab8))
                    have hlp8 : (Q1 ++ [if gg then (1 : UInt8) else 0]).length ≤ ((62 + 2200 * 64) + 10) + 1 := by rw [List.length_append]; omega
                    generalize hPe8 : Q1 ++ [if gg then (1 : UInt8) else 0] = Q2 at *
                    have HPe8 := Lib.hid hPe8
                    clear hPe8 hqa8 hoa8 hva8 hEa8 hEb8
                    refine (HU.out m (by omega) _).mono ?_
                    rintro e wa9 ⟨va9, rfl, hva9, hEa9⟩
                    have hoa9 := (Hob8.out.1).below hEa9
                    have hEb9 := Ext.trans _ _ _ (Hob8.out.2) hEa9
                    have hsb9 := hEb9.size
                    have hqa9 := (hEa9.block b8 (Array.getElem?_eq_some_iff.1 (Hq8.out)).1).trans (Hq8.out)
                    have hel9 : (encN m).length ≤ 10 := by assumption
                    obtain ⟨A9, c9, e9, _, _⟩ := hoa9.slice
                    subst e9
                    obtain ⟨B9, d9, f9, _, _⟩ := hva9.slice
                    subst f9
                    clear q0 q1 q2
                    go_wp2_with (at_builtin; go_must (refine app_flat kb flat_kb w2.heap.size rfl (.tmp 129) (.tmp 132) 31 5 1 rfl Try.underlying31 info_u8 (.slice A9 Q2.length c9) (.slice B9 (encN m).length d9) Q2 (encN m) (fun _ => False) _ rfl rfl hoa9 hva9.sl (by omega) (by simp only [maxLen]; omega) (by omega) ?_; intro vb9 wb9 hob9 hgb9 hab9; have hEc9 : Ext w2 wb9 := hEb9.grown hgb9 hsb9 (fun j hj => (hoa9.at hj).1); have hqb9 := (hgb9.block b8 (Array.getElem?_eq_some_iff.1 hqa9).1 (fun e => absurd rfl (Hat8.out _ e.symm))).trans hqa9; have q0 := (cell_of hqb9 0).trans rfl; have q1 := (cell_of hqb9 1).trans rfl; have q2 := (cell_of hqb9 2).trans rfl; have q3 := (cell_of hqb9 3).trans rfl; have Hq9 := Lib.hid hqb9; have hat9 : ∀ j, vb9.ownBlock = some j → j ≠ b8 := (fun j hj => by rcases hab9 with h | h; (· rw [h] at hj; exact Hat8.out j hj); (· rw [h] at hj; injection hj with hj; have := (Array.getElem?_eq_some_iff.1 hqa9).1; omega)); have Hat9 := Lib.hid hat9; clear hqb9 hat9; have Hob9 := Lib.hid (And.intro hob9 hEc9); clear hob9 hgb9 hab9))
                    have hlp9 : (Q2 ++ encN m).length ≤ (((62 + 2200 * 64) + 10) + 1) + 10 := by rw [List.length_append]; omega
                    generalize hPe9 : Q2 ++ encN m = Q3 at *
                    have HPe9 := Lib.hid hPe9
                    clear hPe9 hqa9 hoa9 hva9 hEa9 hEb9
                    cases gg with
                    | true =>
                      refine (HT.out _).mono ?_
                      rintro e wa10 ⟨va10, rfl, hva10, hEa10⟩
                      have hoa10 := (Hob9.out.1).below hEa10
                      have hEb10 := Ext.trans _ _ _ (Hob9.out.2) hEa10
                      have hsb10 := hEb10.size
                      have hqa10 := (hEa10.block b8 (Array.getElem?_eq_some_iff.1 (Hq9.out)).1).trans (Hq9.out)
                      have hel10 : (encT (kk.extract m kk.size)).length ≤ 1100 := by omega
                      obtain ⟨A10, c10, e10, _, _⟩ := hoa10.slice
                      subst e10
                      obtain ⟨B10, d10, f10, _, _⟩ := hva10.slice
                      subst f10
                      clear q0 q1 q2
                      go_wp2_with (at_builtin; go_must (refine app_flat kb flat_kb w2.heap.size rfl (.tmp 134) (.tmp 139) 31 5 1 rfl Try.underlying31 info_u8 (.slice A10 Q3.length c10) (.slice B10 (encT (kk.extract m kk.size)).length d10) Q3 (encT (kk.extract m kk.size)) (fun _ => False) _ rfl rfl hoa10 hva10.sl (by omega) (by simp only [maxLen]; omega) (by omega) ?_; intro vb10 wb10 hob10 hgb10 hab10; have hEc10 : Ext w2 wb10 := hEb10.grown hgb10 hsb10 (fun j hj => (hoa10.at hj).1); have hqb10 := (hgb10.block b8 (Array.getElem?_eq_some_iff.1 hqa10).1 (fun e => absurd rfl (Hat9.out _ e.symm))).trans hqa10; have q0 := (cell_of hqb10 0).trans rfl; have q1 := (cell_of hqb10 1).trans rfl; have q2 := (cell_of hqb10 2).trans rfl; have q3 := (cell_of hqb10 3).trans rfl; have Hq10 := Lib.hid hqb10; have hat10 : ∀ j, vb10.ownBlock = some j → j ≠ b8 := (fun j hj => by rcases hab10 with h | h; (· rw [h] at hj; exact Hat9.out j hj); (· rw [h] at hj; injection hj with hj; have := (Array.getElem?_eq_some_iff.1 hqa10).1; omega)); have Hat10 := Lib.hid hat10; clear hqb10 hat10; have Hob10 := Lib.hid (And.intro hob10 hEc10); clear hob10 hgb10 hab10))
                      have hlp10 : (Q3 ++ encT (kk.extract m kk.size)).length ≤ ((((62 + 2200 * 64) + 10) + 1) + 10) + 1100 := by rw [List.length_append]; omega
                      generalize hPe10 : Q3 ++ encT (kk.extract m kk.size) = Q4 at *
                      have HPe10 := Lib.hid hPe10
                      clear hPe10 hqa10 hoa10 hva10 hEa10 hEb10
                      refine ⟨⟨k + 1, hlt, by rw [Int.natCast_succ], ?_, Hob10.out.2⟩, hmeas.out⟩
                      have hfe : P6 ++ encRs (time : Int) ⟨#[]⟩ (l.take (k + 1)) = Q4 := by
                        rw [Hsn.out, ← List.append_assoc, HPg.out, Hem.out, ← HPe10.out, ← HPe9.out, ← HPe8.out, ← HPe7.out]
                        simp only [List.append_assoc, if_true, List.append_nil]
                      rw [hfe]
                      exact Hob10.out.1
                    | false =>
                      refine (HT.out _).mono ?_
                      rintro e wa11 ⟨va11, rfl, hva11, hEa11⟩
                      have hoa11 := (Hob9.out.1).below hEa11
                      have hEb11 := Ext.trans _ _ _ (Hob9.out.2) hEa11
                      have hsb11 := hEb11.size
                      have hqa11 := (hEa11.block b8 (Array.getElem?_eq_some_iff.1 (Hq9.out)).1).trans (Hq9.out)
                      have hel11 : (encT (kk.extract m kk.size)).length ≤ 1100 := by omega
                      obtain ⟨A11, c11, e11, _, _⟩ := hoa11.slice
                      subst e11
                      obtain ⟨B11, d11, f11, _, _⟩ := hva11.slice
                      subst f11
                      clear q0 q1 q2
                      go_wp2_with (at_builtin; go_must (refine app_flat kb flat_kb w2.heap.size rfl (.tmp 134) (.tmp 139) 31 5 1 rfl Try.underlying31 info_u8 (.slice A11 Q3.length c11) (.slice B11 (encT (kk.extract m kk.size)).length d11) Q3 (encT (kk.extract m kk.size)) (fun _ => False) _ rfl rfl hoa11 hva11.sl (by omega) (by simp only [maxLen]; omega) (by omega) ?_; intro vb11 wb11 hob11 hgb11 hab11; have hEc11 : Ext w2 wb11 := hEb11.grown hgb11 hsb11 (fun j hj => (hoa11.at hj).1); have hqb11 := (hgb11.block b8 (Array.getElem?_eq_some_iff.1 hqa11).1 (fun e => absurd rfl (Hat9.out _ e.symm))).trans hqa11; have q0 := (cell_of hqb11 0).trans rfl; have q1 := (cell_of hqb11 1).trans rfl; have q2 := (cell_of hqb11 2).trans rfl; have q3 := (cell_of hqb11 3).trans rfl; have Hq11 := Lib.hid hqb11; have hat11 : ∀ j, vb11.ownBlock = some j → j ≠ b8 := (fun j hj => by rcases hab11 with h | h; (· rw [h] at hj; exact Hat9.out j hj); (· rw [h] at hj; injection hj with hj; have := (Array.getElem?_eq_some_iff.1 hqa11).1; omega)); have Hat11 := Lib.hid hat11; clear hqb11 hat11; have Hob11 := Lib.hid (And.intro hob11 hEc11); clear hob11 hgb11 hab11))
                      have hlp11 : (Q3 ++ encT (kk.extract m kk.size)).length ≤ ((((62 + 2200 * 64) + 10) + 1) + 10) + 1100 := by rw [List.length_append]; omega
                      generalize hPe11 : Q3 ++ encT (kk.extract m kk.size) = Q4 at *
                      have HPe11 := Lib.hid hPe11
                      clear hPe11 hqa11 hoa11 hva11 hEa11 hEb11
                      refine (HV.out _).mono ?_
                      rintro e wa12 ⟨va12, rfl, hva12, hEa12⟩
                      have hoa12 := (Hob11.out.1).below hEa12
                      have hEb12 := Ext.trans _ _ _ (Hob11.out.2) hEa12
                      have hsb12 := hEb12.size
                      have hqa12 := (hEa12.block b8 (Array.getElem?_eq_some_iff.1 (Hq11.out)).1).trans (Hq11.out)
                      have hel12 : (encT vv).length ≤ 1100 := by omega
                      obtain ⟨A12, c12, e12, _, _⟩ := hoa12.slice
                      subst e12
                      obtain ⟨B12, d12, f12, _, _⟩ := hva12.slice
                      subst f12
                      clear q0 q1 q2
                      go_wp2_with (at_builtin; go_must (refine app_flat kb flat_kb w2.heap.size rfl (.tmp 144) (.tmp 147) 31 5 1 rfl Try.underlying31 info_u8 (.slice A12 Q4.length c12) (.slice B12 (encT vv).length d12) Q4 (encT vv) (fun _ => False) _ rfl rfl hoa12 hva12.sl (by omega) (by simp only [maxLen]; omega) (by omega) ?_; intro vb12 wb12 hob12 hgb12 hab12; have hEc12 : Ext w2 wb12 := hEb12.grown hgb12 hsb12 (fun j hj => (hoa12.at hj).1); have hqb12 := (hgb12.block b8 (Array.getElem?_eq_some_iff.1 hqa12).1 (fun e => absurd rfl (Hat11.out _ e.symm))).trans hqa12; have q0 := (cell_of hqb12 0).trans rfl; have q1 := (cell_of hqb12 1).trans rfl; have q2 := (cell_of hqb12 2).trans rfl; have q3 := (cell_of hqb12 3).trans rfl; have Hq12 := Lib.hid hqb12; have hat12 : ∀ j, vb12.ownBlock = some j → j ≠ b8 := (fun j hj => by rcases hab12 with h | h; (· rw [h] at hj; exact Hat11.out j hj); (· rw [h] at hj; injection hj with hj; have := (Array.getElem?_eq_some_iff.1 hqa12).1; omega)); have Hat12 := Lib.hid hat12; clear hqb12 hat12; have Hob12 := Lib.hid (And.intro hob12 hEc12); clear hob12 hgb12 hab12))
                      have hlp12 : (Q4 ++ encT vv).length ≤ (((((62 + 2200 * 64) + 10) + 1) + 10) + 1100) + 1100 := by rw [List.length_append]; omega
                      generalize hPe12 : Q4 ++ encT vv = Q5 at *
                      have HPe12 := Lib.hid hPe12
                      clear hPe12 hqa12 hoa12 hva12 hEa12 hEb12
                      refine ⟨⟨k + 1, hlt, by rw [Int.natCast_succ], ?_, Hob12.out.2⟩, hmeas.out⟩
                      have hfe : P6 ++ encRs (time : Int) ⟨#[]⟩ (l.take (k + 1)) = Q5 := by
                        rw [Hsn.out, ← List.append_assoc, HPg.out, Hem.out, ← HPe12.out, ← HPe11.out, ← HPe9.out, ← HPe8.out, ← HPe7.out]
                        simp only [List.append_assoc, Bool.false_eq_true, if_false]
                      rw [hfe]
                      exact Hob12.out.1
            · obtain rfl : k = n := by omega
              have hfin := Lib.hid (show L = P6 ++ encRs (time : Int) ⟨#[]⟩ (l.take k) from by rw [Hhd2.out]; congr 2; rw [← Hnl.out, List.take_length])
              go_wp2
              go_ret2
              refine ⟨_, rfl, ?_, hEw⟩
              rw [hfin.out]
              exact ho.lower HE2.out.size
theorem Rencode_calls (w : World) (B : Nat) (hB : B ≤ w.heap.size) (b : BtM) (A : Option Addr) (c : Nat) (h : BtAt w B b A c) :
    Calls Try.prog 17 #[.agg (btC b A c)] w (EncPost w b) := by
  by_cases hv : validE b = 0
  · exact Rencode_ok w B hB b A c h hv
  · exact Rencode_bad w B hB b A c h hv
end Go.Proofs.Ytaomhedjamnloaa
