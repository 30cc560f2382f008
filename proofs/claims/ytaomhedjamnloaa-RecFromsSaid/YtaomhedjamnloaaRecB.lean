/- Contracts of rec: Valid, Next, Mark, Same. -/
import Derived.Test.YtaomhedjamnloaaRecA
import Derived.Test.YtaomhedjamnloaaRecP1
set_option linter.unusedVariables false
set_option linter.unusedSimpArgs false
namespace Go.Proofs.Ytaomhedjamnloaa
open Go Go.RowKit

structure RecOk (r : Rc) : Prop where
  key : r.1.size ≤ 9223372036854775807
  val : r.2.1.size ≤ 9223372036854775807
  time : I64 r.2.2.2
structure RecCells (w : World) (a : Addr) (r : Rc) : Prop where
  c0 : w.cell? a = some (.string r.1)
  c1 : w.cell? ⟨a.block, a.off + 1, none⟩ = some (.string r.2.1)
  c2 : w.cell? ⟨a.block, a.off + 2, none⟩ = some (.bool r.2.2.1)
  c3 : w.cell? ⟨a.block, a.off + 3, none⟩ = some (.int .i64 r.2.2.2)
theorem rec_of {w : World} {F : Nat → Prop} {r : Rc} {c : List Value} (h : recK.K w F r c) : c = [.string r.1, .string r.2.1, .bool r.2.2.1, .int .i64 r.2.2.2] ∧ RecOk r := by
  obtain ⟨c0, r0, rfl, k0, c1, r1, rfl, k1, c2, c3, rfl, k2, k3⟩ := h
  obtain ⟨e0, w0⟩ := k0
  obtain ⟨e1, w1⟩ := k1
  obtain ⟨e2, _⟩ := k2
  obtain ⟨e3, w3⟩ := k3
  subst e0; subst e1; subst e2; subst e3
  unfold maxLen at w0 w1
  exact ⟨rfl, by omega, by omega, i64_of_wf w3⟩
theorem recK_mk (w : World) (F : Nat → Prop) {r : Rc} (h1 : r.1.size ≤ maxLen) (h2 : r.2.1.size ≤ maxLen) (h3 : I64 r.2.2.2) : recK.K w F r [.string r.1, .string r.2.1, .bool r.2.2.1, .int .i64 r.2.2.2] :=
  ⟨[_], [_, _, _], rfl, ⟨rfl, h1⟩, [_], [_, _], rfl, ⟨rfl, h2⟩, [_], [_], rfl, ⟨rfl, trivial⟩, num64_one w F _ h3⟩
theorem rec_at {w : World} {F : Nat → Prop} {A : Option Addr} {xs : List Rc} (h : Row recK w F A xs) (k : Nat) (hk : k < xs.length) : ∃ ad, A = some ad ∧ RecCells w (ad.add (k * 4)) xs[k] ∧ RecOk xs[k] := by
  obtain ⟨ad, c, e, hf, hl, hK, hc⟩ := h.get k hk
  obtain ⟨rfl, ho⟩ := rec_of hK
  have hja : ∀ j, 0 < j → ad.add (k * 4 + j) = ⟨(ad.add (k * 4)).block, (ad.add (k * 4)).off + j, Option.none⟩ := fun j hj => by
    rw [← Addr.add_add]
    unfold Addr.add
    split
    · omega
    · rfl
  have h1 := hc 1 _ rfl
  have h2 := hc 2 _ rfl
  have h3 := hc 3 _ rfl
  rw [show recK.sz = 4 from rfl, hja _ (by decide)] at h1 h2 h3
  exact ⟨ad, e, ⟨hc 0 _ rfl, h1, h2, h3⟩, ho⟩
theorem meas_up {k n : Nat} (h : k < n) : n - (intOf (Value.int .i64 ((k : Int) + 1))).toNat < n - (intOf (Value.int .i64 (k : Int))).toNat := by
  have e1 : intOf (Value.int .i64 ((k : Int) + 1)) = (k : Int) + 1 := rfl
  have e2 : intOf (Value.int .i64 (k : Int)) = (k : Int) := rfl
  rw [e1, e2]
  omega
theorem recsE_snoc : ∀ {l : List Rc} {r : Rc}, recsE l = 0 → recsE (l ++ [r]) = recE r
  | [], r, _ => by simp only [List.nil_append, recsE]; split <;> simp_all
  | x :: l, r, h => by
    unfold recsE at h
    by_cases h0 : recE x = 0
    · rw [if_pos h0] at h
      rw [List.cons_append, recsE, if_pos h0, recsE_snoc h]
    · rw [if_neg h0] at h; exact absurd h h0
theorem recsE_at : ∀ {l : List Rc} {k : Nat} (hk : k < l.length), recsE (l.take k) = 0 → recE l[k] ≠ 0 → recsE l = recE l[k]
  | [], k, hk, _, _ => by simp at hk
  | x :: l, 0, _, _, h => by simp only [List.getElem_cons_zero] at h ⊢; rw [recsE, if_neg h]
  | x :: l, k + 1, hk, h, h2 => by
    rw [List.take_succ_cons, recsE] at h
    by_cases h0 : recE x = 0
    · rw [if_pos h0] at h
      rw [recsE, if_pos h0]
      exact recsE_at (by simpa using hk) h h2
    · rw [if_neg h0] at h; exact absurd h h0
theorem over24 {p : Prop} [Decidable p] {ob : Bool} {v : Int} (hov : ob = decide p) (hv : (if ob = true then 24 else 0) = v) (h : p) : (24 : Int) = v := by
  rw [← hv, hov, if_pos (decide_eq_true h)]
theorem over0 {p : Prop} [Decidable p] {ob : Bool} {v : Int} (hov : ob = decide p) (hv : (if ob = true then 24 else 0) = v) (h : ¬ p) : (0 : Int) = v := by
  rw [← hv, hov, if_neg (by rw [decide_eq_true_iff]; exact h)]
set_option maxRecDepth 8000 in
set_option maxHeartbeats 600000 in
theorem Valid_calls (w : World) (B : Nat) (hB : B ≤ w.heap.size) (b : BtM) (A : Option Addr) (c : Nat) (h : BtAt w B b A c) :
    Calls Try.prog 14 #[.agg (btC b A c)] w fun e w' => e = .returned (.int .i64 (validE b)) ∧ Ext w w' := by
  have hlc := h.lc
  have hl63 : b.l.length ≤ 9223372036854775807 := by unfold maxLen at hlc; omega
  have Hn := Lib.hid (fun W => numbers_calls W b A c)
  have Hf := Lib.hid (fun W => fits_calls W b A c hl63)
  have Hs := Lib.hid (fun W => Span_calls W b A c)
  have Hm := Lib.hid (fun W => mark_calls W b A c)
  have HE := Lib.hid (Ext.alloc w (.cells #[.int .i64 b.base, .int .i64 b.pid, .int .i64 b.epoch, .int .i64 b.seq, .int .i64 b.kind, .int .i64 b.time, .slice A b.l.length c] 24))
  have Hp := Lib.hid (BtObj.new w b A b.l.length c)
  generalize hv : validE b = v
  have hov : overB b = decide (1099511627776 - ((spanN b : Nat) - 1 : Int) < b.base ∨ (0 < b.pid ∧ markB b = false ∧ 2147483647 - ((spanN b : Nat) - 1 : Int) < b.seq)) := rfl
  have hsp : spanN b ≤ b.l.length + 1 := by unfold spanN; split <;> omega
  unfold validE at hv
  generalize numB b = nb at *
  generalize fitsB b = fb at *
  generalize overB b = ob at *
  generalize spanN b = sp at *
  generalize markB b = mk at *
  have Hov := Lib.hid hov
  have Hv := Lib.hid hv
  have Hsp := Lib.hid hsp
  have Hrow := Lib.hid (fun W (hE : Ext w W) => h.row.belowF (fun _ hk => Nat.lt_of_lt_of_le hk hB) hE)
  have Hok := Lib.hid h.ok
  clear hv h hov hsp
  unfold btC at *
  generalize hnl : b.l.length = n at *
  have Hnl := Lib.hid hnl
  clear hnl
  go_enter Try.func14, Try.ntmps14
  go_upto_region 1 with fail
  generalize Value.agg #[.int .i64 b.base, .int .i64 b.pid, .int .i64 b.epoch, .int .i64 b.seq, .int .i64 b.kind, .int .i64 b.time, .slice A n c] = av
  generalize w.alloc (.cells #[.int .i64 b.base, .int .i64 b.pid, .int .i64 b.epoch, .int .i64 b.seq, .int .i64 b.kind, .int .i64 b.time, .slice A n c] 24) = w1 at *
  obtain ⟨k0, k1, k2, k3, k4, k5, k6⟩ := Hp.out.cells
  go_wp2_with fail
  refine (Hn.out w1).mono ?_
  rintro e w2 ⟨rfl, hE2⟩
  obtain ⟨l0, l1, l2, l3, l4, l5, l6⟩ := (Hp.out.ext hE2).cells
  have hE2' := Ext.trans _ _ _ HE.out hE2
  cases nb with
  | false =>
    go_wp2
    go_ret
    exact ⟨ret_i64 (by rw [← Hv.out, if_pos (.inl trivial)]), hE2'⟩
  | true =>
    clear k0 k1 k2 k3 k4 k5 k6
    go_wp2_with fail
    refine (Hf.out w2).mono ?_
    rintro e w3 ⟨rfl, hE3⟩
    have hE13 := Ext.trans _ _ _ hE2 hE3
    obtain ⟨m0, m1, m2, m3, m4, m5, m6⟩ := (Hp.out.ext hE13).cells
    have hE3' := Ext.trans _ _ _ HE.out hE13
    clear l0 l1 l2 l3 l4 l5 l6
    cases fb with
    | false =>
      go_wp2
      go_ret
      exact ⟨ret_i64 (by rw [← Hv.out, if_pos (.inr trivial)]), hE3'⟩
    | true =>
      by_cases h64 : 64 < n
      · go_wp2
        go_ret
        exact ⟨ret_i64 (by rw [← Hv.out, if_neg (by simp), if_pos h64]), hE3'⟩
      · go_wp2_with fail
        have Hp3 := Lib.hid (Hp.out.ext hE13)
        go_loopw [24] (fun i wr => ∃ k : Nat, k ≤ n ∧ i = .int .i64 k ∧ Hid (recsE (b.l.take k) = 0) ∧ Ext w3 wr) (fun i _ => n - (intOf i).toNat)
        case atStart => exact ⟨0, Nat.zero_le _, rfl, Lib.hid rfl, Ext.refl _⟩
        case round =>
          obtain ⟨k, hk, rfl, Hr, hEr⟩ := hrel
          have hEw := Ext.trans _ _ _ hE3' hEr
          by_cases hlt : k < n
          · obtain ⟨ad, rfl, hcc, hro⟩ := rec_at (Hrow.out wr hEw) k (by rw [Hnl.out]; exact hlt)
            have Hsn := Lib.hid (show recsE (b.l.take (k + 1)) = recE (b.l[k]'(by rw [Hnl.out]; exact hlt)) from by rw [List.take_succ_eq_append_getElem]; exact recsE_snoc Hr.out)
            have Hat := Lib.hid (recsE_at (l := b.l) (k := k) (by rw [Hnl.out]; exact hlt) Hr.out)
            generalize b.l[k]'(by rw [Hnl.out]; exact hlt) = r at *
            obtain ⟨kk, vv, gg, tt⟩ := r
            obtain ⟨c0, c1, c2, c3⟩ := hcc
            obtain ⟨r1, r2, r3⟩ := hro
            have Hrec := Lib.hid (fun W => record_calls W kk vv gg tt r1 r2)
            generalize recE (kk, vv, gg, tt) = er at *
            simp only at c0 c1 c2 c3
            clear r1 r2 r3
            go_wp2_with fail
            refine (Hrec.out _).mono ?_
            rintro e w4 ⟨rfl, hE4⟩
            have hE4r := Ext.trans _ _ _ (Ext.alloc wr (.cells #[.string kk, .string vv, .bool gg, .int .i64 tt] 54)) hE4
            have hE4w := Ext.trans _ _ _ hEw hE4r
            have hE43 := Ext.trans _ _ _ hEr hE4r
            clear hE4
            by_cases h0 : er = 0
            · subst h0
              go_wp2
              refine ⟨⟨k + 1, hlt, by rw [Int.natCast_succ], Lib.hid Hsn.out, hE43⟩, meas_up hlt⟩
            · have hne : decide (er = 0) = false := decide_eq_false h0
              go_wp2
              go_ret
              have ha := Hat.out h0
              refine ⟨ret_i64 ?_, hE4w⟩
              rw [← Hv.out, if_neg (by simp), if_neg h64, if_pos (by rw [ha]; exact h0), ha]
          · obtain rfl : k = n := by omega
            have hrs : recsE b.l = 0 := by
              have := Hr.out
              rwa [← Hnl.out, List.take_length] at this
            have hv2 := Hv.out
            rw [if_neg (by simp), if_neg h64, if_neg (by rw [hrs]; exact fun h => h rfl)] at hv2
            have Hv2 := Lib.hid hv2
            clear hv2 hrs Hv
            obtain ⟨q0, q1, q2, q3, q4, q5, q6⟩ := (Hp3.out.ext hEr).cells
            go_wp2_with fail
            refine (Hs.out _).mono ?_
            rintro e w5 ⟨rfl, hE5⟩
            obtain ⟨p0, p1, p2, p3, p4, p5, p6⟩ := (Hp3.out.ext (Ext.trans _ _ _ hEr hE5)).cells
            have hE5' := Ext.trans _ _ _ hEw hE5
            have hsp := Hsp.out
            obtain ⟨hb1, hb2, hb3, hb4, hb5, hb6⟩ := Hok.out
            unfold I64 at *
            clear hb2 hb3 hb5 hb6 q0 q1 q2 q3 q4 q5 q6
            cases mk
            all_goals
              go_wp2_with (go_at_call 50; refine (Hm.out _).mono ?_; rintro e w6 ⟨rfl, hE6⟩; obtain ⟨s0, s1, s2, s3, s4, s5, s6⟩ := (Hp3.out.ext (Ext.trans _ _ _ hEr (Ext.trans _ _ _ hE5 hE6))).cells)
            all_goals go_ret
            all_goals
              refine ⟨ret_i64 ?_, ?_⟩
              · first
                | (refine over24 Hov.out Hv2.out ?_; left; omega)
                | (refine over24 Hov.out Hv2.out ?_; right; refine ⟨?_, ?_, ?_⟩; omega; trivial; omega)
                | (refine over0 Hov.out Hv2.out ?_; rintro (h | ⟨h, h2, h3⟩); omega; first | exact h2.elim | exact Bool.noConfusion h2)
                | (refine over0 Hov.out Hv2.out ?_; rintro (h | ⟨h, h2, h3⟩); omega; omega)
              · first
                | exact hE5'
                | exact Ext.trans _ _ _ hE5' (by assumption)
end Go.Proofs.Ytaomhedjamnloaa
