/- FrameScans: the walk of the law. -/
import Derived.Test.YtkmjcjhnfpkakaaLawSeals
set_option linter.unusedVariables false
set_option linter.unusedSimpArgs false
namespace Go.Proofs.Ytkmjcjhnfpkakaa
open Go Go.RowKit

theorem bits_xor8 (a b : UInt8) : bits .xor .u8 (a.toNat : Int) (b.toNat : Int) = ((a ^^^ b).toNat : Int) := by
  unfold bits
  have h : ∀ x : UInt8, BitVec.ofInt 8 (x.toNat : Int) = x.toBitVec := by
    intro x
    apply BitVec.eq_of_toNat_eq
    rw [BitVec.toNat_ofInt]
    have := x.toNat_lt
    simp
    omega
  simp only [IntKind.bits, h]
  rw [IntKind.wrap_u8]
  have := (a ^^^ b).toNat_lt
  show ((a.toBitVec ^^^ b.toBitVec).toNat : Int) % 256 = _
  have e : (a.toBitVec ^^^ b.toBitVec).toNat = (a ^^^ b).toNat := rfl
  rw [e]
  omega
theorem seals_len (L : List (List UInt8)) (h : ∀ x ∈ L, x.length ≤ 200) (k : Nat) : ((L.take k).map sealO).flatten.length ≤ k * 208 := by
  have := flat_le ((L.take k).map sealO) 208 (fun x hx => by
    obtain ⟨y, hy, rfl⟩ := List.mem_map.1 hx
    have h1 := seal_len y
    have h2 := h y (List.mem_of_mem_take hy)
    omega)
  rw [List.length_map, List.length_take] at this
  have h3 : min k L.length * 208 ≤ k * 208 := Nat.mul_le_mul_right _ (Nat.min_le_left _ _)
  omega

theorem scanN_total : ∀ (n : Nat) (l : List UInt8), total (scanN n l) ≤ l.length
  | 0, _ => by simp [scanN, total]
  | n + 1, l => by
    unfold scanN
    cases h : firstO l with
    | none => simp [total]
    | some b =>
      have h1 := firstO_le h
      have h2 := scanN_total n (l.drop (b.length + 8))
      rw [List.length_drop] at h2
      simp only [total, List.map_cons, List.sum_cons] at *
      omega
theorem scan_total (l : List UInt8) : total (scanL l) ≤ l.length := scanN_total _ _

def firstN : Option (List UInt8) → Int
  | none => 0
  | some b => (b.length : Int) + 8
theorem firstN_nat (o : Option (List UInt8)) : ∃ q : Nat, firstN o = q := by
  cases o with
  | none => exact ⟨0, rfl⟩
  | some b => exact ⟨b.length + 8, by simp [firstN]⟩
theorem firstN_pos (o : Option (List UInt8)) : decide ((0 : Int) < firstN o) = o.isSome := by
  cases o with
  | none => rfl
  | some b =>
    have : (0 : Int) < (b.length : Int) + 8 := by omega
    exact decide_eq_true this
theorem First_calls2 (A : Option Addr) (c : Nat) (l : List UInt8) (F : Nat → Prop) (w : World) (hl : l.length ≤ 1099511627776) (hc : l.length ≤ c) (hm : c ≤ maxLen) (hr : Row kb w F A l) :
    Calls Try.prog 20 #[.slice A l.length c] w fun e w' => ∃ v, e = .returned (.tuple #[v, .int .i64 (firstN (firstO l)), .bool (firstO l).isSome]) ∧ Own kb 5 w' w.heap.size (fun _ => False) v ((firstO l).getD []) ∧ Below w.heap.size w w' := by
  have := First_calls A c l F w hl hc hm hr
  unfold FirstPost at this
  cases h : firstO l <;> rw [h] at this <;> exact this
theorem RFirst_calls2 (A : Option Addr) (c : Nat) (l : List UInt8) (w : World) (hl : l.length ≤ 1099511627776) (hc : l.length ≤ c) (hm : c ≤ maxLen) (hr : Row kb w (fun k => k < w.heap.size) A l) :
    Calls Try.prog 19 #[.slice A l.length c] w fun e w' => ∃ v, e = .returned (.tuple #[v, .int .i64 (firstN (firstO l))]) ∧ Own kb 5 w' w.heap.size (fun _ => False) v ((firstO l).getD []) ∧ Below w.heap.size w w' := by
  have := RFirst_calls A c l w hl hc hm hr
  unfold RFirstPost at this
  cases h : firstO l <;> rw [h] at this <;> exact this

set_option maxRecDepth 4000 in
set_option maxHeartbeats 8000000 in
theorem FrameScans_calls (A Ao : Option Addr) (c co : Nat) (ls : List (List UInt8)) (at_ : Int) (by_ : UInt8) (other : List UInt8) (w : World) (ha : -9223372036854775808 ≤ at_ ∧ at_ ≤ 9223372036854775807) (hn : ls.length ≤ maxLen) (hr : Row (slk kb) w (fun k => k < w.heap.size) A ls)
    (hco : other.length ≤ co) (hmo : co ≤ maxLen) (hro : Row kb w (fun k => k < w.heap.size) Ao other) :
    Calls Try.prog 7 #[.slice A ls.length c, .int .i64 at_, .int .u8 by_.toNat, .slice Ao other.length co] w fun e w' => e = .returned (.bool true) ∧ Below w.heap.size w w' := by
  go_enter Try.func7, Try.ntmps7
  go_wp2_with fail
  refine (few_calls A c ls w hn hr).mono ?_
  rintro e w1 ⟨v1, rfl, ho1, HB⟩
  have hL1 := fewL_len ls
  have hL2 := fewL_each ls
  generalize fewL ls = L at *
  obtain ⟨A1, c1, e1, hc1, hm1, hr1⟩ := ho1.lt
  subst e1
  clear ho1
  go_wp2
  go_loopw [9, 25] (fun v i w' => ∃ k : Nat, k ≤ L.length ∧ i = .int .i64 k ∧ Own kb 5 w' w1.heap.size (fun _ => False) v ((L.take k).map sealO).flatten ∧ Below w1.heap.size w1 w') (fun _ i _ => L.length - (intOf i).toNat)
  case atStart => exact ⟨0, by omega, rfl, Own.nil _ _ _ _ _, Below.refl _ _⟩
  case round =>
    obtain ⟨k, hk, rfl, ho, hB⟩ := hrel
    have hlen := seals_len L hL2 k
    by_cases hlt : k < L.length
    · obtain ⟨ad, Ax, cx, rfl, hcell, hcx, hmx, hrow⟩ := (hr1.belowF (fun _ h => h) hB).sl_at k hlt
      have hx := hL2 _ (List.getElem_mem hlt)
      have Hfl := Lib.hid (show ((L.take (k + 1)).map sealO).flatten = ((L.take k).map sealO).flatten ++ sealO L[k] by rw [take_snoc L k hlt, List.map_append, List.flatten_append]; simp)
      have hsl := seal_len L[k]
      have hcall := RSeal_calls Ax cx L[k] wr (by omega) hcx hmx hrow.lt
      have Hcall := Lib.hid hcall
      clear hcall
      generalize ((L.take k).map sealO).flatten = pre at *
      go_wp2_with fail
      refine Hcall.out.mono ?_
      rintro e w2 ⟨vs, rfl, hos, hb2⟩
      have ho := ho.below hb2
      have hB := hB.trans (hb2.mono hB.size)
      go_wp2_with (at_builtin; go_must (refine app_flat kb flat_kb w1.heap.size rfl (.tmp 29) (.tmp 31) 24 5 1 rfl Try.underlying24 info_u8 u9 vs pre _ _ _ rfl rfl ho hos.sl (by omega) (by simp only [maxLen]; omega) hB.size ?_; intro v4 w4 ho4 hg ha4))
      go_roundw
      case rel => exact ⟨k + 1, hlt, by go_num, by rw [Hfl.out]; exact ho4, hB.grown hg hB.size (fun k hk => (ho.at hk).1)⟩
      case measure => simp [intOf]; omega
    · obtain rfl : k = L.length := by omega
      rw [List.take_length] at ho hlen
      have HB2 := HB.trans (hB.mono HB.size)
      have hrow := (hro.belowF (fun _ h => h) HB2).lt
      have Hsh := Lib.hid (short_calls Ao co other _ 100 wr (by omega) hco hmo hrow)
      have hw1 := hB.size
      clear hB
      generalize (L.map sealO).flatten = pre at *
      go_wp2_with fail
      refine Hsh.out.mono ?_
      rintro e w2 ⟨⟨vo, rfl, hso⟩, rfl⟩
      have hotl : (other.take 100).length ≤ 100 := by rw [List.length_take]; omega
      generalize other.take 100 = r at *
      go_wp2_with (at_builtin; go_must (refine app_flat kb flat_kb w1.heap.size rfl (.tmp 34) (.tmp 36) 24 5 1 rfl Try.underlying24 info_u8 u9 vo pre r _ _ rfl rfl ho hso (by omega) (by simp only [maxLen]; omega) hw1 ?_; intro v4 w4 ho4 hg ha4))
      have HB4 : Below w.heap.size w w4 := HB2.grown hg (by have := HB.size; omega) (fun k hk => by have h1 := (ho.at hk).1; have := HB.size; omega)
      have hpl : (pre ++ r).length ≤ 8000 := by rw [List.length_append]; omega
      generalize pre ++ r = t at *
      obtain ⟨A4, c4, e1, hc4, hm4⟩ := ho4.slice
      subst e1
      have hBs := HB.size
      clear ho hg ha4 hro hrow Hsh hso hr hr1 HB HB2
      go_simp
      go_upto_if 40 with fail
      go_cut [1, 9] (fun v1 v9 wx => ∃ s : List UInt8, s.length = t.length ∧ v9 = .slice A4 s.length c4 ∧ Own kb 5 wx w1.heap.size (fun _ => False) v9 s ∧ Below w.heap.size w wx)
      case first =>
        by_cases h0 : 0 < t.length
        · have e1 := Int.tmod_lt_of_pos at_ (show (0 : Int) < t.length by omega)
          have e2 : -(t.length : Int) < at_.tmod t.length := by
            have := Int.lt_tmod_of_pos at_ (show (0 : Int) < t.length by omega)
            omega
          obtain ⟨p, hp, hpe⟩ : ∃ p : Nat, p < t.length ∧ ((at_.tmod t.length = -(p : Int) ∧ 0 < p) ∨ at_.tmod t.length = (p : Int)) := by
            by_cases hx : at_.tmod t.length < 0
            · exact ⟨(-(at_.tmod t.length)).toNat, by omega, .inl ⟨by omega, by omega⟩⟩
            · exact ⟨(at_.tmod t.length).toNat, by omega, .inr (by omega)⟩
          obtain ⟨g, c', u, e3, hg, hc, ⟨hu, _⟩, hf, hset⟩ := ho4.put1 rfl p hp
          cases e3
          have hst := Lib.hid (hset (t[p] ^^^ by_) (.int .u8 (t[p] ^^^ by_).toNat) (fun _ _ => ⟨rfl, trivial⟩) (fun _ h => h.elim))
          have hsb := Lib.hid (HB4.setCell (p := ⟨g, p, none⟩) (show w.heap.size ≤ g by omega) (.int .u8 (t[p] ^^^ by_).toNat))
          have hx := bits_xor8 t[p] by_
          clear e1 e2
          simp only [List.cons.injEq, and_true] at hu
          subst hu
          have Hsl := Lib.hid (show (t.set p (t[p] ^^^ by_)).length = t.length from List.length_set)
          generalize t.set p (t[p] ^^^ by_) = s at *
          generalize t[p] = z at *
          rcases hpe with ⟨hpe, hp0⟩ | hpe
          · go_wp2
            all_goals go_meet
            all_goals exact ⟨s, Hsl.out, by rw [Hsl.out], hst.out, hsb.out⟩
          · go_wp2
            all_goals go_meet
            all_goals exact ⟨s, Hsl.out, by rw [Hsl.out], hst.out, hsb.out⟩
        · obtain rfl : t = [] := List.length_eq_zero_iff.1 (by omega)
          go_wp2
          go_meet
          exact ⟨[], rfl, rfl, ho4, HB4⟩
      case rest =>
        obtain ⟨s, hsl, rfl, ho4, HB4⟩ := hcut
        have hs8 : s.length ≤ 8000 := by omega
        clear hsl hpl
        obtain ⟨_, _, e3, hc4, _, hr4⟩ := ho4.lt
        cases e3
        go_wp2_with fail
        refine (Scan_calls A4 c4 s wc (by omega) hc4 hm4 hr4).mono ?_
        rintro e w5 ⟨vp, rfl, hop, hb5⟩
        have HB5 := HB4.trans (hb5.mono HB4.size)
        have hr5 := (hr4.below hb5).lt
        go_wp2_with fail
        refine (RScan_calls A4 c4 s w5 (by omega) hc4 hm4 hr5).mono ?_
        rintro e w6 ⟨vq, rfl, hoq, hb6⟩
        have HB6 := HB5.trans (hb6.mono HB5.size)
        have hr6 := (hr5.below hb6).lt
        have hop6 := hop.below hb6
        go_wp2_with fail
        have htl := total_len (scanL s)
        have hts := scan_total s
        have Hfx := Lib.hid (First_calls2 A4 c4 s _ w6 (by omega) hc4 hm4 hr6)
        have Hry := Lib.hid (fun W (hr : Row kb W (fun k => k < W.heap.size) A4 s) => RFirst_calls2 A4 c4 s W (by omega) hc4 hm4 hr)
        have Hq0 := Lib.hid (firstN_pos (firstO s))
        have hfn := firstN_nat (firstO s)
        generalize (firstO s).getD [] = y at *
        generalize firstN (firstO s) = q at *
        generalize (firstO s).isSome = f at *
        generalize scanL s = X at *
        obtain ⟨q, rfl⟩ := hfn
        refine Hfx.out.mono ?_
        rintro e w7 ⟨vx, rfl, hox, hb7⟩
        have HB7 := HB6.trans (hb7.mono HB6.size)
        have hr7 := (hr6.below hb7).lt
        have hop7 := hop6.below hb7
        have hoq7 := hoq.below hb7
        go_wp2_with fail
        refine (Hry.out w7 hr7).mono ?_
        rintro e w8 ⟨vy, rfl, hoy, hb8⟩
        have HB8 := HB7.trans (hb8.mono HB7.size)
        have hop8 := hop7.below hb8
        have hoq8 := hoq7.below hb8
        have hox8 := hox.below hb8
        have hfq := Hq0.out
        subst hfq
        clear Hq0 hox hop hoq hop6 hop7 hoq7 hb5 hb6 hb7 hb8 hr4 hr5 hr6 hr7 ho4 HB4 HB5 HB6 HB7 Hfx Hry
        obtain ⟨Ap, cp, e3, hcp, hmp, hrp⟩ := hop8.lt
        subst e3
        obtain ⟨Aq, cq, e3, hcq, hmq, hrq⟩ := hoq8.lt
        subst e3
        obtain ⟨Ax, cx, e3, hcx, hmx, hrx⟩ := hox8.lt
        subst e3
        obtain ⟨Ay, cy, e3, hcy, hmy, hry⟩ := hoy.lt
        subst e3
        go_wp2_with fail
        refine (RSame_calls Ap Aq cp cq X X _ _ w8 (by simp only [maxLen]; omega) (by simp only [maxLen]; omega) hrp hrq).mono ?_
        rintro e w9 ⟨rfl, hE9⟩
        have hrx := hrx.below hE9
        have hry := hry.below hE9
        have HB9 := HB8.trans (hE9.mono HB8.size)
        have Hcv := Lib.hid (And.intro (conv_str (hrx) 24 9 5 cx Try.underlying24 Try.underlying5 Try.underlying9) (conv_str (hry) 24 9 5 cy Try.underlying24 Try.underlying5 Try.underlying9))
        obtain ⟨hcv1, hcv2⟩ := Hcv.out
        clear hrx hry hrp hrq hop8 hoq8 hox8 hoy HB8
        simp only [decide_true]
        go_wp2_with fail
        clear hcv1 hcv2
        refine (awake_calls w9).mono ?_
        rintro e w10 ⟨rfl, hb10⟩
        go_wp2
        go_ret
        exact ⟨rfl, HB9.trans (hb10.mono HB9.size)⟩
theorem FrameScans_calls1 (A Ao : Option Addr) (c co : Nat) (ls : List (List UInt8)) (at_ a : Int) (other : List UInt8) (w : World) (ha : -9223372036854775808 ≤ at_ ∧ at_ ≤ 9223372036854775807) (hy : 0 ≤ a ∧ a ≤ 255) (hn : ls.length ≤ maxLen) (hr : Row (slk kb) w (fun k => k < w.heap.size) A ls)
    (hco : other.length ≤ co) (hmo : co ≤ maxLen) (hro : Row kb w (fun k => k < w.heap.size) Ao other) :
    Calls Try.prog 7 #[.slice A ls.length c, .int .i64 at_, .int .u8 a, .slice Ao other.length co] w fun e w' => e = .returned (.bool true) ∧ Below w.heap.size w w' := by
  have e : a = ((UInt8.ofNat a.toNat).toNat : Int) := by
    rw [UInt8.toNat_ofNat']
    omega
  rw [e]
  exact FrameScans_calls A Ao c co ls at_ _ other w ha hn hr hco hmo hro
end Go.Proofs.Ytkmjcjhnfpkakaa
