/- FrameCuts: the walk of the law. -/
import Derived.Test.YtkmjcjhnfpkakaaLawSeals
set_option linter.unusedVariables false
set_option linter.unusedSimpArgs false
namespace Go.Proofs.Ytkmjcjhnfpkakaa
open Go Go.RowKit

theorem sealO_len {b : List UInt8} (hb : b.length ≤ 262144) : (sealO b).length = b.length + 8 := by
  unfold sealO
  rw [if_pos hb]
  simp [sealB, le32_length]; omega
theorem seals_total (L : List (List UInt8)) (h : ∀ x ∈ L, x.length ≤ 262144) : (L.map sealO).flatten.length = total L := by
  induction L with
  | nil => rfl
  | cons x L ih =>
    have h1 := sealO_len (h x (List.mem_cons_self ..))
    have h2 := ih fun y hy => h y (List.mem_cons_of_mem _ hy)
    rw [List.map_cons, List.flatten_cons, List.length_append, h1, h2]
    simp [total]
theorem first_short {b : List UInt8} (hb : b.length ≤ 262144) (r : List UInt8) (n : Nat) (hn : n < b.length + 8) : firstO ((sealB b ++ r).take n) = none := by
  unfold firstO
  rw [if_neg]
  rintro ⟨h1, h2, h3, h4⟩
  have hlen : ((sealB b ++ r).take n).length ≤ n := by rw [List.length_take]; omega
  have e1 : num32 ((sealB b ++ r).take n) = num32 (sealB b ++ r) := by
    rw [← num32_take, List.take_take, Nat.min_eq_left (by omega), num32_take]
  have e2 : num32 (sealB b ++ r) = b.length := by
    unfold sealB
    rw [List.append_assoc, List.append_assoc]
    exact num32_le32 _ (by omega) _
  rw [e1, e2] at h3
  omega
theorem scan_cut (L : List (List UInt8)) : ∀ (m n : Nat), (∀ x ∈ L, x.length ≤ 262144) → m ≤ L.length → total (L.take m) ≤ n → (m < L.length → n < total (L.take (m + 1))) → scanL ((L.map sealO).flatten.take n) = L.take m := by
  induction L with
  | nil =>
    intro m n _ _ _ _
    simp [scanL, scanN]
  | cons x L ih =>
    intro m n hL hm h1 h2
    have hx := hL x (List.mem_cons_self ..)
    have hL' : ∀ y ∈ L, y.length ≤ 262144 := fun y hy => hL y (List.mem_cons_of_mem _ hy)
    have hs : sealO x = sealB x := if_pos hx
    have hsl : (sealB x).length = x.length + 8 := by rw [← hs]; exact sealO_len hx
    rw [List.map_cons, List.flatten_cons, hs]
    cases m with
    | zero =>
      have := h2 (by simp)
      simp [total] at this
      rw [scanL_none (first_short hx _ n this)]
      rfl
    | succ m =>
      have h3 : x.length + 8 + total (L.take m) ≤ n := by simpa [total] using h1
      have h4 : m < L.length → n < x.length + 8 + total (L.take (m + 1)) := fun h => by have := h2 (by simpa using h); simpa [total] using this
      have e1 : (sealB x ++ (L.map sealO).flatten).take n = sealB x ++ (L.map sealO).flatten.take (n - (x.length + 8)) := by
        rw [List.take_append, hsl, List.take_of_length_le (by omega)]
      rw [e1, scanL_some (first_sealB hx _), ← hsl, List.drop_left, List.take_succ_cons]
      congr 1
      refine ih m (n - (sealB x).length) hL' (by simpa using hm) (by omega) (fun h => by have := h4 h; omega)
theorem Row.num_at {k : IntKind} {w : World} {F : Nat → Prop} {A : Option Addr} {xs : List Int} (h : Row (num k) w F A xs) (i : Nat) (hi : i < xs.length) :
    ∃ ad, A = some ad ∧ w.cell? (ad.add i) = some (.int k xs[i]) := by
  obtain ⟨ad, u, e, _, hK, hc⟩ := h.at1 rfl i hi
  have : [u] = [.int k xs[i]] := hK.1
  exact ⟨ad, e, by rw [hc]; injection this with this; rw [this]⟩
theorem info_int : (Try.prog.info? 3).map (fun i => (i.zero.map (fun z => z.cells.size), i.size, i.bytes)) = some (some (num .i64).sz, (num .i64).sz, 8) := by kernel_rfl
/-- The seal of one row of bytes. -/
theorem Seal1_calls (V : World) (b : Nat) (A : Option Addr) (c : Nat) (l : List UInt8) (hl : l.length ≤ 1099511627776) (hc : V.cell? ⟨b, 0, none⟩ = some (.slice A l.length c)) (h1 : l.length ≤ c) (hm : c ≤ maxLen) (hr : Row kb V (fun k => k < V.heap.size) A l) :
    Calls Try.prog 15 #[.slice (some ⟨b, 0, none⟩) 1 1] V (SealPost 5 V l) := by
  have := Seal_calls (some ⟨b, 0, none⟩) 1 [l] V (by simp [maxLen]) (by simpa using hl) ⟨[.slice A l.length c], .inr ⟨_, rfl, World.block_lt_of_cell? V _ hc, fun j u hj => by
    match j, hj with
    | 0, hj => simp at hj; subst hj; exact hc⟩, Reps.single rfl ⟨_, rfl, A, c, rfl, h1, hm, hr⟩⟩
  simpa using this
theorem scanN_total : ∀ (n : Nat) (l : List UInt8), total (scanN n l) ≤ l.length
  | 0, _ => by simp [scanN, total]
  | n + 1, l => by
    unfold scanN
    cases h : firstO l with
    | none => simp [total]
    | some b =>
      have h1 := firstO_le h
      have h2 := scanN_total n (l.drop (b.length + 8))
      rw [List.length_drop] at h2
      simp only [total, List.map_cons, List.sum_cons] at *
      omega
theorem scan_total (l : List UInt8) : total (scanL l) ≤ l.length := scanN_total _ _
/-- Where the frames end. -/
def endsL (L : List (List UInt8)) (k : Nat) : List Int := (List.range k).map fun i => (total (L.take (i + 1)) : Int)
theorem ends_len (L : List (List UInt8)) (k : Nat) : (endsL L k).length = k := by simp [endsL]
theorem ends_snoc (L : List (List UInt8)) (k : Nat) : endsL L (k + 1) = endsL L k ++ [(total (L.take (k + 1)) : Int)] := by simp [endsL, List.range_succ]
theorem ends_at (L : List (List UInt8)) (k i : Nat) (h : i < (endsL L k).length) : (endsL L k)[i] = (total (L.take (i + 1)) : Int) := by simp [endsL]
theorem total_le (L : List (List UInt8)) (h : ∀ x ∈ L, x.length ≤ 200) (k : Nat) : total (L.take k) ≤ k * 208 := by
  induction L generalizing k with
  | nil => simp [total]
  | cons x L ih =>
    cases k with
    | zero => simp [total]
    | succ k =>
      have h1 := h x (List.mem_cons_self ..)
      have h2 := ih (fun y hy => h y (List.mem_cons_of_mem _ hy)) k
      simp only [total, List.take_succ_cons, List.map_cons, List.sum_cons] at *
      omega

set_option maxRecDepth 8000 in
set_option maxHeartbeats 8000000 in
theorem FrameCuts_calls (A : Option Addr) (c : Nat) (ls : List (List UInt8)) (at_ : Int) (w : World) (ha : -9223372036854775808 ≤ at_ ∧ at_ ≤ 9223372036854775807) (hn : ls.length ≤ maxLen) (hr : Row (slk kb) w (fun k => k < w.heap.size) A ls) :
    Calls Try.prog 8 #[.slice A ls.length c, .int .i64 at_] w fun e w' => e = .returned (.bool true) ∧ Below w.heap.size w w' := by
  go_enter Try.func8, Try.ntmps8
  go_wp2_with fail
  refine (few_calls A c ls w hn hr).mono ?_
  rintro e w1 ⟨v1, rfl, ho1, HB⟩
  have hL1 := fewL_len ls
  have hL2 := fewL_each ls
  generalize fewL ls = L at *
  obtain ⟨A1, c1, e1, hc1, hm1, hr1⟩ := ho1.lt
  subst e1
  clear ho1
  go_wp2
  go_loopw [5, 6, 18] (fun v ve i w' => ∃ k : Nat, k ≤ L.length ∧ i = .int .i64 k ∧ Own kb 5 w' w1.heap.size (fun _ => False) v ((L.take k).map sealO).flatten ∧ Own (num .i64) 3 w' w1.heap.size (fun _ => False) ve (endsL L k) ∧ Hid (∀ j, v.ownBlock = some j → ve.ownBlock ≠ some j) ∧ Below w1.heap.size w1 w') (fun _ _ i _ => L.length - (intOf i).toNat)
  case atStart => exact ⟨0, by omega, rfl, Own.nil _ _ _ _ _, Own.nil _ _ _ _ _, Lib.hid (fun _ h => by cases h), Below.refl _ _⟩
  case round =>
    obtain ⟨k, hk, rfl, ho, hoe, Hd, hB⟩ := hrel
    have hlen : ((L.take k).map sealO).flatten.length = total (L.take k) := seals_total _ (fun x hx => by have := hL2 x (List.mem_of_mem_take hx); omega)
    have htl := total_le L hL2 k
    by_cases hlt : k < L.length
    · obtain ⟨ad, Ax, cx, rfl, hcell, hcx, hmx, hrow⟩ := (hr1.belowF (fun _ h => h) hB).sl_at k hlt
      have hx := hL2 _ (List.getElem_mem hlt)
      have Hfl := Lib.hid (show ((L.take (k + 1)).map sealO).flatten = ((L.take k).map sealO).flatten ++ sealO L[k] by rw [take_snoc L k hlt, List.map_append, List.flatten_append]; simp)
      have hsl : (sealO L[k]).length = L[k].length + 8 := sealO_len (by omega)
      have Htt := Lib.hid (show total (L.take (k + 1)) = total (L.take k) + (L[k].length + 8) by rw [take_snoc L k hlt, total_snoc])
      have Hes := Lib.hid (ends_snoc L k)
      have hel := ends_len L k
      generalize ((L.take k).map sealO).flatten = pre at *
      generalize endsL L k = es at *
      go_wp2_with fail
      refine (Seal1_calls _ wr.heap.size Ax cx L[k] (by omega) (cell_new0 _ _ _) hcx hmx (hrow.lt.alloc _).lt).mono ?_
      rintro e w2 ⟨vs, rfl, hos, hb2⟩
      have hb0 : Below wr.heap.size wr w2 := ((Below.refl wr.heap.size wr).alloc (Nat.le_refl _) _).trans (hb2.mono (by simp))
      have ho2 := ho.below hb0
      have hoe2 := hoe.below hb0
      have hB2 := hB.trans (hb0.mono hB.size)
      have Hat := Lib.hid (fun j (h : u6.ownBlock = some j) => (hoe.at h).2)
      have hsz := hb0.size
      clear ho hoe hB hb2 hb0
      go_wp2_with (at_builtin; go_must (refine app_flat kb flat_kb w1.heap.size rfl (.tmp 22) (.tmp 25) 24 5 1 rfl Try.underlying24 info_u8 u5 vs pre _ _ _ rfl rfl ho2 hos.sl (by omega) (by simp only [maxLen]; omega) hB2.size ?_; intro v4 w4 ho4 hg4 ha4))
      have hoe4 := hoe2.grown hg4 (by
        cases h6 : u6.ownBlock with
        | none => exact .inl rfl
        | some j => exact .inr fun h => Hd.out j h.symm h6) (fun _ h => h.elim)
      have hB4 := hB2.grown hg4 hB2.size (fun k hk => (ho2.at hk).1)
      have h4 := fun j (h : v4.ownBlock = some j) => (ho4.at h).2
      have Hd4 := Lib.hid (show ∀ j, v4.ownBlock = some j → u6.ownBlock ≠ some j from fun j h h6 => by
        rcases ha4 with h5 | h5
        · exact Hd.out j (h5 ▸ h) h6
        · rw [h5] at h
          injection h with h
          have := Hat.out j h6
          omega)
      have H4 := Lib.hid h4
      clear h4 ha4 hg4 ho2 hos hoe2 hB2
      have Hpl := Lib.hid (show (pre ++ sealO L[k]).length = total (L.take (k + 1)) by rw [List.length_append, Htt.out, hlen, hsl])
      generalize pre ++ sealO L[k] = pr at *
      obtain ⟨A4, c4, e4, hc4, hm4⟩ := ho4.slice
      have hpl : pr.length ≤ 2000 := by have := Hpl.out; have := Htt.out; omega
      have hyw : (Lit.int .i64 (pr.length : Int)).wf = true := by simp [Lit.wf, IntKind.min, IntKind.max, IntKind.signed, IntKind.bits]; omega
      have Hyw := Lib.hid hyw
      clear hyw
      subst e4
      go_simp
      go_wp2_with (at_builtin; go_must (refine app_onef (num .i64) (flat_sc _ _ _) w1.heap.size rfl (.tmp 27) (.tmp 30) 49 3 8 rfl Try.underlying49 info_int u6 es (pr.length : Int) w4.heap.size [.int .i64 (pr.length : Int)] (fun _ => False) rfl rfl (hoe4.alloc _) (cell_one_new _ _ _) ⟨rfl, Hyw.out⟩ (by omega) (by simp only [maxLen]; omega) (by have := hB4.size; simp; omega) ?_; intro v6 w6 ho6 hg6 ha6))
      go_roundw
      case rel =>
        have hv6 : ∀ j, (Value.slice A4 pr.length c4).ownBlock = some j → v6.ownBlock ≠ some j := fun j h h6 => by
          rcases ha6 with h5 | h5
          · exact Hd4.out j h (h5 ▸ h6)
          · rw [h5] at h6
            injection h6 with h6
            have := H4.out j h
            simp at h6
            omega
        refine ⟨k + 1, hlt, by go_num, ?_, ?_, Lib.hid hv6, ?_⟩
        · rw [Hfl.out]
          refine (ho4.alloc _).grown hg6 ?_ (fun _ h => h.elim)
          cases h8 : (Value.slice A4 pr.length c4).ownBlock with
          | none => exact .inl rfl
          | some j => exact .inr fun h => Hd4.out j h8 h.symm
        · rw [Hes.out, ← Hpl.out]
          exact ho6
        · exact (hB4.alloc hB4.size _).grown hg6 (by have := hB4.size; simp; omega) (fun k hk => (hoe4.at hk).1)
      case measure => simp [intOf]; omega
    · obtain rfl : k = L.length := by omega
      have hq : ∀ x ∈ L, x.length ≤ 262144 := fun x hx => by have := hL2 x hx; omega
      have Hcut := Lib.hid (fun m n => scan_cut L m n hq)
      rw [List.take_length] at ho hlen htl
      have HB2 := HB.trans (hB.mono HB.size)
      have hr1 := (hr1.below hB).lt
      have hel := ends_len L L.length
      have hea := Lib.hid (ends_at L L.length)
      generalize (L.map sealO).flatten = b at *
      generalize endsL L L.length = es at *
      obtain ⟨Ab, cb, e1, hcb, hmb, hrb⟩ := ho.lt
      subst e1
      obtain ⟨Ae, ce, e1, hce, hme, hre⟩ := hoe.lt
      subst e1
      have Hlen := Lib.hid hlen
      have Hel := Lib.hid hel
      have hb2 : b.length ≤ 2000 := by omega
      clear ho hoe Hd hB hlen htl hel hq
      go_upto_if 39 with fail
      go_cut [1] (fun v wx => ∃ p : Nat, p ≤ b.length ∧ v = .int .i64 p ∧ wx = wr)
      case first =>
        have e1 := Int.tmod_lt_of_pos at_ (show (0 : Int) < b.length + 1 by omega)
        have e2 : -((b.length : Int) + 1) < at_.tmod (b.length + 1) := by
          have := Int.lt_tmod_of_pos at_ (show (0 : Int) < b.length + 1 by omega)
          omega
        generalize at_.tmod (b.length + 1) = x at *
        go_wp2
        all_goals go_meet
        · exact ⟨(-x).toNat, by omega, by simp; omega, rfl⟩
        · exact ⟨x.toNat, by omega, by simp; omega, rfl⟩
      case rest =>
        obtain ⟨p, hp, rfl, rfl⟩ := hcut
        have hcut1 := fun W => slice_to (P := Try.prog) 24 5 Try.underlying24 (by kernel_rfl) Ab b.length cb (p : Int) (by omega) (by omega) W .i64
        simp only [Int.toNat_natCast] at hcut1
        have ht : (b.take p).length = p := by rw [List.length_take]; omega
        have hcall := Scan_calls Ab cb (b.take p) wc (by omega) (by omega) hmb (hrb.take p)
        unfold ScanPost at hcall
        rw [ht] at hcall
        have Hcall := Lib.hid hcall
        have Hcut1 := Lib.hid (fun m => Hcut.out m p)
        have Hxl := Lib.hid (show total (scanL (b.take p)) ≤ p by have := scan_total (b.take p); omega)
        have Hx8 := Lib.hid (total_len (scanL (b.take p)))
        clear hcall ht Hcut
        generalize scanL (b.take p) = X at *
        go_wp2_with fail
        refine Hcall.out.mono ?_
        rintro e w7 ⟨vx, rfl, hox, hb7⟩
        have HB7 := HB2.trans (hb7.mono HB2.size)
        have hr17 := (hr1.below hb7).lt
        have hre7 := (hre.below hb7).lt
        obtain ⟨Ax, cx, e1, hcx, hmx, hrx⟩ := hox.lt
        subst e1
        have hL0 := Lib.hid (show total (L.take 0) = 0 from rfl)
        have Hxt := Lib.hid (show ((X.length : Nat) : Int) = X.length from rfl)
        clear hr1 hre hrb hb7 hox Hcall HB2 HB
        have hes8 : es.length ≤ 8 := by have := Hel.out; omega
        go_wp2_with fail
        go_loopw [11, 12, 51] (fun v11 v12 i w' => ∃ k m : Nat, k ≤ es.length ∧ i = .int .i64 k ∧ v11 = .int .i64 m ∧ v12 = .int .i64 (total (L.take m)) ∧ m ≤ k ∧ Hid (total (L.take m) ≤ p ∧ ∀ j, m < j → j ≤ k → p < total (L.take j)) ∧ w' = w7) (fun _ _ i _ => es.length - (intOf i).toNat)
        case atStart => exact ⟨0, 0, by omega, rfl, rfl, rfl, by omega, Lib.hid ⟨by rw [hL0.out]; omega, fun j h1 h2 => by omega⟩, rfl⟩
        case round =>
          obtain ⟨k, m, hk, rfl, rfl, rfl, hm, Hm, rfl⟩ := hrel
          by_cases hlt : k < es.length
          · obtain ⟨ad, rfl, hcell⟩ := hre7.num_at k hlt
            have Hek := Lib.hid (hea.out k hlt)
            obtain ⟨q, hq⟩ : ∃ q : Nat, total (L.take (k + 1)) = q := ⟨_, rfl⟩
            have Hq := Lib.hid hq
            rw [hea.out k hlt, hq] at hcell
            clear hq
            by_cases hqp : q ≤ p
            · have hqi : (q : Int) ≤ (p : Int) := by omega
              go_wp2
              go_roundw
              case rel => exact ⟨k + 1, k + 1, hlt, by go_num, by go_num, by rw [Hq.out], by omega, Lib.hid ⟨by rw [Hq.out]; exact hqp, fun j h1 h2 => by omega⟩, by trivial⟩
              case measure => simp [intOf]; omega
            · have hqi : ¬ (q : Int) ≤ (p : Int) := by omega
              go_wp2
              go_roundw
              case rel => exact ⟨k + 1, m, hlt, by go_num, rfl, rfl, by omega, Lib.hid ⟨Hm.out.1, fun j h1 h2 => by
                by_cases hj : j = k + 1
                · rw [hj, Hq.out]; omega
                · exact Hm.out.2 j h1 (by omega)⟩, by trivial⟩
              case measure => simp [intOf]; omega
          · obtain rfl : k = es.length := by omega
            have hml : m ≤ L.length := by have := Hel.out; omega
            have hX : X = L.take m := Hcut1.out m hml Hm.out.1 (fun h => Hm.out.2 _ (by omega) (by have := Hel.out; omega))
            have hxm : X.length = m := by rw [hX, List.length_take]; omega
            rw [← hX]
            subst hxm
            have hrX := hr17.take X.length
            rw [← hX] at hrX
            have hx8 := hes8
            have htx := Hx8.out
            have htp := Hxl.out
            have hcut2 := fun W => slice_to (P := Try.prog) 22 24 Try.underlying22 (by kernel_rfl) A1 L.length c1 (X.length : Int) (by omega) (by omega) W .i64
            simp only [Int.toNat_natCast] at hcut2
            clear hX Hm Hxl Hx8 Hxt hcut1
            go_wp2_with fail
            refine (RSame_calls Ax A1 cx c1 X X _ _ wr (by simp only [maxLen]; omega) (by simp only [maxLen]; omega) hrx hrX).mono ?_
            rintro e w9 ⟨rfl, hE9⟩
            have HB9 := HB7.trans (hE9.mono HB7.size)
            simp only [decide_true]
            clear hcut2
            go_wp2_with fail
            refine (awake_calls w9).mono ?_
            rintro e w10 ⟨rfl, hb10⟩
            go_wp2
            go_ret
            exact ⟨rfl, HB9.trans (hb10.mono HB9.size)⟩
end Go.Proofs.Ytkmjcjhnfpkakaa
