/- Contract: the document's records. -/
import Derived.Test.YtaomhedjamnloaaRecM
import Derived.Test.YtaomhedjamnloaaRecF
import Derived.Test.YtaomhedjamnloaaRRd6
import Derived.Deep.QuietTactic
import Derived.BigQuiet
set_option linter.unusedVariables false
set_option linter.unusedSimpArgs false
namespace Go.Proofs.Ytaomhedjamnloaa
open Go Go.RowKit

def goonB (n : Int) (j : Nat) (er : Int) : Bool := decide (((j : Int) < n ∧ (j : Int) < 65) ∧ er = 0)
theorem goonB_yes {n er : Int} {j : Nat} (h : goonB n j er = true) : j < (min n 65).toNat ∧ er = 0 := by
  obtain ⟨⟨h1, h2⟩, h3⟩ := of_decide_eq_true h
  exact ⟨by omega, h3⟩
theorem goonB_no {n er : Int} {j : Nat} (h : goonB n j er = false) (hj : j ≤ (min n 65).toNat) : j = (min n 65).toNat ∨ er ≠ 0 := by
  have h1 := of_decide_eq_false h
  by_cases he : er = 0
  · left
    by_cases h2 : (j : Int) < n ∧ (j : Int) < 65
    · exact absurd ⟨h2, he⟩ h1
    · omega
  · exact .inr he
theorem recsR_stop {t : Int} {k : Nat} {y : RdM} {key : ByteArray} {acc : List Rc} (h : k = 0 ∨ y.err ≠ 0) : recsR t k y key acc = acc := by
  cases k with
  | zero => rfl
  | succ k =>
    rcases h with h | h
    · cases h
    · rw [recsR, if_pos h]
theorem recsR_cases {t : Int} {k : Nat} {y y1 y2 y3 y4 y5 : RdM} {key s v : ByteArray} {acc : List Rc} {d m : Int} {f : Bool} (he : y.err = 0) (h1 : (d, y1) = IntR y) (h2 : (f, y2) = FlagR y1) (h3 : (m, y3) = smallR y2) (h4 : (s, y4) = TextR y3 2000) (h5 : (v, y5) = TextR y4 2000) :
    recsR t (k + 1) y key acc = if 2199023255552 < d ∨ d < -2199023255552 then [] else if m < 0 ∨ (key.size : Int) < m then [] else if f = true then recsR t k y4 (keyJ key s m.toNat) (acc ++ [(keyJ key s m.toNat, ⟨#[]⟩, true, t + d)]) else recsR t k y5 (keyJ key s m.toNat) (acc ++ [(keyJ key s m.toNat, v, false, t + d)]) := by
  rw [recsR, if_neg (fun h => h he)]
  simp only [← h1, ← h2, ← h3, ← h4, ← h5]
theorem keyJ_size (a s : ByteArray) (n : Nat) (h : n ≤ a.size) : (keyJ a s n).size = n + s.size := by
  unfold keyJ
  have h1 : a.data.toList.length = a.size := Array.length_toList
  have h2 : s.data.toList.length = s.size := Array.length_toList
  show (a.data.toList.take n ++ s.data.toList).toArray.size = _
  rw [List.size_toArray, List.length_append, List.length_take, h1, h2]
  omega
theorem keyJ_ext (a s : ByteArray) (n : Nat) : a.extract 0 n ++ s = keyJ a s n := by
  apply ByteArray.ext
  unfold keyJ
  rw [ByteArray.data_append, ByteArray.data_extract]
  apply Array.toList_inj.1
  simp
def RecsPost (w : World) (B g : Nat) (A : Option Addr) (c : Nat) (l : List Rc) (e : Ending) (w' : World) : Prop :=
  ∃ v y, e = .returned v ∧ Own recK 54 w' w.heap.size (fun _ => False) v l ∧ QAt w' B g A c y ∧ Mut g w w'
set_option maxRecDepth 8000 in
set_option maxHeartbeats 1600000 in
theorem qRecords_calls (w : World) (B g : Nat) (A : Option Addr) (c : Nat) (x : RdM) (h : QAt w B g A c x) (tm : Int) (ht : 0 ≤ tm ∧ tm ≤ 2199023255552) :
    Calls Try.prog 65 #[.pointer (some ⟨g, 0, none⟩), .int .i64 tm] w (RecsPost w B g A c (recordsR x tm)) := by
  have Hs := Lib.hid (qSmall_calls w B g A c x h)
  have hn := smallR_range x
  have hgl := h.lt
  have Hq0 := Lib.hid h
  unfold recordsR
  generalize smallR x = p at *
  obtain ⟨n, x1⟩ := p
  simp only at *
  clear h
  generalize hRR : recsR tm (min n 65).toNat x1 ⟨#[]⟩ [] = RR
  have HRR := Lib.hid hRR
  obtain ⟨N, hN⟩ : ∃ N, N = (min n 65).toNat := ⟨_, rfl⟩
  rw [← hN] at HRR
  have HN := Lib.hid hN
  have hN65 : N ≤ 65 := by omega
  clear hRR hN
  go_enter Try.func65, Try.ntmps65
  go_wp2_with fail
  refine Hs.out.mono ?_
  rintro e w1 ⟨rfl, hq1, hm1⟩
  clear Hs
  go_wp2_with fail
  go_loopw [6, 7, 8] (fun a b i wr => ∃ (j : Nat) (lk : List Rc) (y : RdM) (ak : ByteArray), j ≤ N ∧ i = .int .i64 j ∧ b = .string ak ∧ ak.size ≤ 2000 * j ∧ lk.length = j ∧ Hid (RR = recsR tm (N - j) y ak lk) ∧ QAt wr B g A c y ∧ Own recK 54 wr w.heap.size (fun _ => False) a lk ∧ Mut g w wr) (fun _ _ i _ => N - (intOf i).toNat)
  case atStart => exact ⟨0, [], x1, ⟨#[]⟩, Nat.zero_le _, rfl, rfl, Nat.zero_le _, rfl, Lib.hid HRR.out.symm, hq1, Own.nil _ _ _ _ _, hm1⟩
  case round =>
    obtain ⟨j, lk, y, ak, hj, rfl, rfl, hak, rfl, Hre, hq, ho, hm⟩ := hrel
    have hcy := hq.cells.2.2
    have HQ := Lib.hid (And.intro hq (And.intro ho hm))
    clear hq ho hm
    go_upto_region 5 with fail
    go_cut [28] (fun v wx => v = .bool (goonB n lk.length y.err) ∧ QAt wx B g A c y ∧ Own recK 54 wx w.heap.size (fun _ => False) u6 lk ∧ Mut g w wx)
    case first =>
      by_cases h1 : (lk.length : Int) < n
      · by_cases h2 : (lk.length : Int) < 65
        · have Hg := Lib.hid (show goonB n lk.length y.err = (y.err == 0) from by unfold goonB; rw [Bool.eq_iff_iff, decide_eq_true_iff, beq_iff_eq]; exact ⟨fun h => h.2, fun h => ⟨⟨h1, h2⟩, h⟩⟩)
          have h2n : lk.length < 65 := by omega
          go_wp2
          go_meet
          exact ⟨by rw [Hg.out], HQ.out.1, HQ.out.2.1, HQ.out.2.2⟩
        · have Hg := Lib.hid (show goonB n lk.length y.err = false from decide_eq_false fun h => h2 h.1.2)
          have hd2 : decide ((lk.length : Int) < 65) = false := decide_eq_false h2
          have hd2n : decide (lk.length < 65) = false := decide_eq_false (by omega)
          clear h2
          go_wp2
          go_meet
          exact ⟨by rw [Hg.out], HQ.out.1, HQ.out.2.1, HQ.out.2.2⟩
      · have Hg := Lib.hid (show goonB n lk.length y.err = false from decide_eq_false fun h => h1 h.1.1)
        have hd1 : decide ((lk.length : Int) < n) = false := decide_eq_false h1
        clear h1
        go_wp2
        go_meet
        exact ⟨by rw [Hg.out], HQ.out.1, HQ.out.2.1, HQ.out.2.2⟩
    case rest =>
      obtain ⟨rfl, hq, ho, hm⟩ := hcut
      obtain ⟨Al, cl, e6, _, _⟩ := ho.slice
      subst e6
      have HQ2 := Lib.hid (And.intro hq (And.intro ho hm))
      have Hi := Lib.hid (qInt_calls _ B g A c y hq)
      clear hq ho hm HQ
      obtain ⟨⟨d, y1⟩, hI⟩ : ∃ p, p = IntR y := ⟨_, rfl⟩
      obtain ⟨⟨f, y2⟩, hF⟩ : ∃ p, p = FlagR y1 := ⟨_, rfl⟩
      obtain ⟨⟨m, y3⟩, hS⟩ : ∃ p, p = smallR y2 := ⟨_, rfl⟩
      obtain ⟨⟨s, y4⟩, hT⟩ : ∃ p, p = TextR y3 2000 := ⟨_, rfl⟩
      obtain ⟨⟨v, y5⟩, hV⟩ : ∃ p, p = TextR y4 2000 := ⟨_, rfl⟩
      have Hcs := Lib.hid (fun he (k : Nat) => @recsR_cases tm k y y1 y2 y3 y4 y5 ak s v lk d m f he hI hF hS hT hV)
      rw [← hI] at Hi
      have Hf := Lib.hid (show ∀ W, QAt W B g A c y1 → Calls Try.prog 113 #[.pointer (some ⟨g, 0, none⟩)] W (QPost W B g A c y2 (.bool f)) from fun W hq => by
        have := qFlag_calls W B g A c y1 hq
        rw [← hF] at this
        exact this)
      have Hsm := Lib.hid (show ∀ W, QAt W B g A c y2 → Calls Try.prog 64 #[.pointer (some ⟨g, 0, none⟩)] W (QPost W B g A c y3 (.int .i64 m)) from fun W hq => by
        have := qSmall_calls W B g A c y2 hq
        rw [← hS] at this
        exact this)
      have Ht := Lib.hid (show ∀ W, QAt W B g A c y3 → Calls Try.prog 114 #[.pointer (some ⟨g, 0, none⟩), .int .i64 2000] W (QPost W B g A c y4 (.string s)) from fun W hq => by
        have := qText_calls W B g A c y3 hq 2000 (by omega)
        rw [← hT] at this
        exact this)
      have Hv := Lib.hid (show ∀ W, QAt W B g A c y4 → Calls Try.prog 114 #[.pointer (some ⟨g, 0, none⟩), .int .i64 2000] W (QPost W B g A c y5 (.string v)) from fun W hq => by
        have := qText_calls W B g A c y4 hq 2000 (by omega)
        rw [← hV] at this
        exact this)
      have hs2000 : s.size ≤ 2000 := by have := TextR_most y3 2000; rw [← hT] at this; exact this
      have hv2000 : v.size ≤ 2000 := by have := TextR_most y4 2000; rw [← hV] at this; exact this
      have hmr := smallR_range y2
      rw [← hS] at hmr
      simp only at hmr Hi
      clear hI hF hS hT hV
      go_wp2_with fail
      · have hy := goonB_yes (by assumption)
        obtain ⟨k, hk⟩ : ∃ k, N - lk.length = k + 1 := ⟨N - lk.length - 1, by have := HN.out; omega⟩
        have Hr2 := Lib.hid (show RR = _ from Hre.out.trans ((congrArg (fun z => recsR tm z y ak lk) hk).trans (Hcs.out hy.2 k)))
        have hkN : N - (lk.length + 1) = k := by omega
        have Hk := Lib.hid hkN
        have hjN : lk.length < N := by omega
        clear Hre Hcs hk hkN hy
        refine Hi.out.mono ?_
        rintro e w2 ⟨rfl, hq2, hm2⟩
        have ho2 := HQ2.out.2.1.move (w' := w2) (fun k hk => hm2.block k (HQ2.out.2.1.at hk).2 (by have := (HQ2.out.2.1.at hk).1; omega)) (fun _ h => h.elim)
        have hmw2 := HQ2.out.2.2.trans hm2
        by_cases hfar : 2199023255552 < d ∨ d < -2199023255552
        · have hr := Lib.hid (Hr2.out.trans (if_pos hfar))
          have hE := Lib.hid (show RecsPost w B g A c RR (.returned (.slice none 0 0)) w2 from ⟨_, y1, rfl, by rw [hr.out]; exact Own.nil _ _ _ _ _, hq2, hmw2⟩)
          clear Hr2 hr ho2 hmw2 hq2 hm2 HQ2
          by_cases hf1 : 2199023255552 < d
          · go_wp2
            go_ret
            exact hE.out
          · have hf2 : d < -2199023255552 := by omega
            clear hfar
            go_wp2
            go_ret
            exact hE.out
        · have hd1 : d ≤ 2199023255552 := by omega
          have hd2 : -2199023255552 ≤ d := by omega
          have hd3 : decide (2199023255552 < d) = false := decide_eq_false (by omega)
          have hd4 : decide (d < -2199023255552) = false := decide_eq_false (by omega)
          have Hr3 := Lib.hid (Hr2.out.trans (if_neg hfar))
          have kw : IntKind.i64.wrap (tm + d) = tm + d := IntWalk.i64_in _ ⟨by omega, by omega⟩
          have Hq2 := Lib.hid (And.intro hq2 (And.intro ho2 hmw2))
          clear Hr2 hfar ho2 hmw2 hq2 hm2 HQ2
          go_wp2_with fail
          refine (Hf.out w2 Hq2.out.1).mono ?_
          rintro e w3 ⟨rfl, hq3, hm3⟩
          have hmw3 := Hq2.out.2.2.trans hm3
          have ho3 := Hq2.out.2.1.move (w' := w3) (fun k hk => hm3.block k (Hq2.out.2.1.at hk).2 (by have := (Hq2.out.2.1.at hk).1; omega)) (fun _ h => h.elim)
          have hg3 := hq3.lt
          have Hat3 := Lib.hid (fun k (hk : (Value.slice Al lk.length cl).ownBlock = some k) => (ho3.at hk).2)
          have Hfar3 := Lib.hid (fun a (e : A = some a) => (hq3.far a e).2)
          have hs3 := hmw3.size
          go_wp2_with (refine gate_op (p := .store 54 (.tmp 10) (.tmp 44)) rfl ?_; go_must (refine put_row rfl 54 (.tmp 10) (.tmp 44) rfl w3.heap.size #[.string ⟨#[]⟩, .string ⟨#[]⟩, .bool f, .int .i64 (tm + d)] rfl rfl _ _ (one_new _ _).1 size_rec rfl (recC_one (⟨#[]⟩, ⟨#[]⟩, f, tm + d)) ?_; intro w4 hp4; have hE4 : Ext w3 w4 := hp4.below (one_new _ _).2.1 (Nat.le_refl _); have H4 := Lib.hid (And.intro hp4.obj (And.intro (hq3.ext hE4) (And.intro (ho3.below hE4) (hmw3.trans (Mut.of hE4))))); have hs4 := hE4.size; have hlt4 : w3.heap.size < w4.heap.size := (Array.getElem?_eq_some_iff.1 hp4.obj).1; clear hp4 hE4))
          clear hq3 hm3 ho3 hmw3 Hq2
          refine (Hsm.out w4 H4.out.2.1).mono ?_
          rintro e w5 ⟨rfl, hq5, hm5⟩
          go_wp2_with fail
          refine (Ht.out w5 hq5).mono ?_
          rintro e w6 ⟨rfl, hq6, hm6⟩
          have hm46 := hm5.trans hm6
          have hmw6 := H4.out.2.2.2.trans hm46
          have ho6 := H4.out.2.2.1.move (w' := w6) (fun k hk => hm46.block k (H4.out.2.2.1.at hk).2 (by have := (H4.out.2.2.1.at hk).1; omega)) (fun _ h => h.elim)
          have hj6 := (hm46.block w3.heap.size hlt4 (by omega)).trans H4.out.1
          have Hq6 := Lib.hid (And.intro hq6 (And.intro ho6 hmw6))
          have Hj6 := Lib.hid hj6
          have Hat6 := Lib.hid (fun k (hk : (Value.slice Al lk.length cl).ownBlock = some k) => (H4.out.2.2.1.at hk).2)
          have hs6 := hm46.size
          clear hq5 hm5 hq6 hm6 hm46 hmw6 ho6 hj6
          by_cases hbad : m < 0 ∨ (ak.size : Int) < m
          · have hr := Lib.hid (Hr3.out.trans (if_pos hbad))
            have hE := Lib.hid (show RecsPost w B g A c RR (.returned (.slice none 0 0)) w6 from ⟨_, y4, rfl, by rw [hr.out]; exact Own.nil _ _ _ _ _, Hq6.out.1, Hq6.out.2.2⟩)
            clear Hr3 hr Hq6 Hj6 H4
            by_cases hf1 : m < 0
            · go_wp2
              go_ret
              exact hE.out
            · have hf2 : (ak.size : Int) < m := by omega
              clear hbad
              go_wp2
              go_ret
              exact hE.out
          · obtain ⟨mm, rfl⟩ : ∃ mm : Nat, m = mm := ⟨m.toNat, by omega⟩
            have hmk : mm ≤ ak.size := by omega
            have hb1 : decide ((mm : Int) < 0) = false := decide_eq_false (by omega)
            have hb2 : decide ((ak.size : Int) < (mm : Int)) = false := decide_eq_false (by omega)
            have hb3 : decide (ak.size < mm) = false := decide_eq_false (by omega)
            have hkj := keyJ_ext ak s mm
            have hr4 := Hr3.out.trans (if_neg hbad)
            have hkz := keyJ_size ak s mm hmk
            simp only [Int.toNat_natCast] at hr4
            rw [← hkj] at hr4 hkz
            have Hr4 := Lib.hid hr4
            have Hms := Lib.hid (show N - (lk.length + 1) < N - lk.length from by omega)
            clear Hr3 hbad hr4 hkj H4
            go_upto_if 66 with (refine gate_op (p := .store 9 (.tmp 63) (.tmp 62)) rfl ?_; go_must (refine put_cell rfl 9 (.tmp 63) (.tmp 62) rfl w3.heap.size 0 (.string (ak.extract 0 mm ++ s)) rfl rfl rfl _ _ Hj6.out size_str (show 0 < 4 by decide) ?_; intro w7 hp7; have hq7 := hp7.obj; have c2 := (cell_of hq7 2).trans rfl))
            have hmxw7 : Mut g w w7 := ⟨hp7.os.trans Hq6.out.2.2.os, hp7.tape.trans Hq6.out.2.2.tape, hp7.output.trans Hq6.out.2.2.output, by rw [hp7.size]; exact Hq6.out.2.2.size, fun k hk hne => (hp7.block k (by omega)).trans (Hq6.out.2.2.block k hk hne)⟩
            have hqxw7 : QAt w7 B g A c _ := Hq6.out.1.move (by rw [hp7.size]; exact Nat.le_refl _) (fun k hk hor => hp7.block k (by rcases hor with h | ⟨a, e, h⟩; (· rw [h]; omega); (· have := Hfar3.out a e; omega)))
            have hoxw7 := hp7.own Hq6.out.2.1 (fun k hk => by have := Hat3.out k hk; omega) (fun _ h => h.elim)
            have hjxw7 := hp7.obj
            have hsxw7 : w3.heap.size < w7.heap.size := by rw [hp7.size]; omega
            have Hjx := Lib.hid (show w7.heap[w3.heap.size]? = some (.cells #[.string (ak.extract 0 mm ++ s), .string ⟨#[]⟩, .bool f, .int .i64 (tm + d)] 54 (0, 0)) from hjxw7)
            clear hjxw7 hp7 hq7
            generalize ak.extract 0 mm ++ s = key at *
            have hjxw7 := Hjx.out
            cases f with
            | true =>
              have c0 := (cell_of hjxw7 0).trans rfl
              have c1 := (cell_of hjxw7 1).trans rfl
              have c2 := (cell_of hjxw7 2).trans rfl
              have c3 := (cell_of hjxw7 3).trans rfl
              have Hbx := Lib.hid (boxedN (one_new w7 (.cells #[.string key, .string ⟨#[]⟩, .bool true, .int .i64 (tm + d)] 54)).1)
              have hszx := (one_new w7 (.cells #[.string key, .string ⟨#[]⟩, .bool true, .int .i64 (tm + d)] 54)).2.2
              have Hkr := Lib.hid (fun W F => recK_mk W F (r := (key, ⟨#[]⟩, true, tm + d)) (by simp only [maxLen]; omega) (by simp only [maxLen]; first | omega | decide) (show I64 (tm + d) from by unfold I64; omega))
              have Hox := Lib.hid hoxw7
              have HQX := Lib.hid (And.intro hqxw7 hmxw7)
              have hwW : w.heap.size ≤ w7.heap.size := hmxw7.size
              clear hjxw7 hoxw7 hqxw7 hmxw7
              go_wp2_with (at_builtin; go_must (refine app_onef recK flat_rec w.heap.size rfl (.tmp 70) (.tmp 72) 22 54 48 rfl Try.underlying22 info_rec (.slice Al lk.length cl) lk (key, ⟨#[]⟩, true, tm + d) w7.heap.size [.string key, .string ⟨#[]⟩, .bool true, .int .i64 (tm + d)] (fun _ => False) rfl rfl (Hox.out.alloc _) Hbx.out (Hkr.out _ _) (by omega) (by simp only [maxLen]; omega) (by omega) ?_; intro v16 w16 ho16 hg16 ha16; have hb16 := ((Below.refl w.heap.size w7).alloc (by omega) _).grown hg16 (by simp; omega) (fun j hj => (Hox.out.at hj).1); have hq16 := Hq0.out.grown HQX.out.1 (by omega) hg16 (fun j hj => (Hox.out.at hj).1); have H16 := Lib.hid (And.intro ho16 (And.intro hq16 hb16)); clear ho16 hg16 ha16 hb16 hq16))
              refine ⟨⟨lk.length + 1, lk ++ [(key, ⟨#[]⟩, true, tm + d)], y4, key, by omega, by rw [Int.natCast_succ], rfl, by omega, by rw [List.length_append]; rfl, Lib.hid ?_, H16.out.2.1, H16.out.1, ⟨H16.out.2.2.os.trans HQX.out.2.os, H16.out.2.2.tape.trans HQX.out.2.tape, H16.out.2.2.output.trans HQX.out.2.output, Nat.le_trans HQX.out.2.size (by have := H16.out.2.1.lt; have := H16.out.2.2.size; omega), fun k hk hne => (H16.out.2.2.block k hk).trans (HQX.out.2.block k hk hne)⟩⟩, Hms.out⟩
              rw [Hk.out, Hr4.out]
              exact if_pos rfl
  
            | false =>
              clear hjxw7
              have HQ7 := Lib.hid (And.intro hqxw7 (And.intro hoxw7 hmxw7))
              clear hqxw7 hoxw7 hmxw7
              go_wp2_with fail
              refine (Hv.out w7 HQ7.out.1).mono ?_
              rintro e w8 ⟨rfl, hq8, hm8⟩
              have hmw8 := HQ7.out.2.2.trans hm8
              have ho8 := HQ7.out.2.1.move (w' := w8) (fun k hk => hm8.block k (HQ7.out.2.1.at hk).2 (by have := (HQ7.out.2.1.at hk).1; omega)) (fun _ h => h.elim)
              have hj8 := (hm8.block w3.heap.size (by omega) (by omega)).trans Hjx.out
              have hs8 := hm8.size
              clear c2 hm8 Hjx
              go_upto_region 19 with (refine gate_op (p := .store 9 (.tmp 69) (.tmp 68)) rfl ?_; go_must (refine put_cell rfl 9 (.tmp 69) (.tmp 68) rfl w3.heap.size 1 (.string v) rfl rfl rfl _ _ hj8 size_str (show 1 < 4 by decide) ?_; intro w9 hp9))
              have hmxw9 : Mut g w w9 := ⟨hp9.os.trans hmw8.os, hp9.tape.trans hmw8.tape, hp9.output.trans hmw8.output, by rw [hp9.size]; exact hmw8.size, fun k hk hne => (hp9.block k (by omega)).trans (hmw8.block k hk hne)⟩
              have hqxw9 : QAt w9 B g A c _ := hq8.move (by rw [hp9.size]; exact Nat.le_refl _) (fun k hk hor => hp9.block k (by rcases hor with h | ⟨a, e, h⟩; (· rw [h]; omega); (· have := Hfar3.out a e; omega)))
              have hoxw9 := hp9.own ho8 (fun k hk => by have := Hat3.out k hk; omega) (fun _ h => h.elim)
              have hjxw9 := hp9.obj
              have hsxw9 : w3.heap.size < w9.heap.size := by rw [hp9.size]; omega
  
              clear hj8 ho8 hmw8 hq8 hp9
              have c0 := (cell_of hjxw9 0).trans rfl
              have c1 := (cell_of hjxw9 1).trans rfl
              have c2 := (cell_of hjxw9 2).trans rfl
              have c3 := (cell_of hjxw9 3).trans rfl
              have Hbx := Lib.hid (boxedN (one_new w9 (.cells #[.string key, .string v, .bool false, .int .i64 (tm + d)] 54)).1)
              have hszx := (one_new w9 (.cells #[.string key, .string v, .bool false, .int .i64 (tm + d)] 54)).2.2
              have Hkr := Lib.hid (fun W F => recK_mk W F (r := (key, v, false, tm + d)) (by simp only [maxLen]; omega) (by simp only [maxLen]; first | omega | decide) (show I64 (tm + d) from by unfold I64; omega))
              have Hox := Lib.hid hoxw9
              have HQX := Lib.hid (And.intro hqxw9 hmxw9)
              have hwW : w.heap.size ≤ w9.heap.size := hmxw9.size
              clear hjxw9 hoxw9 hqxw9 hmxw9
              go_wp2_with (at_builtin; go_must (refine app_onef recK flat_rec w.heap.size rfl (.tmp 70) (.tmp 72) 22 54 48 rfl Try.underlying22 info_rec (.slice Al lk.length cl) lk (key, v, false, tm + d) w9.heap.size [.string key, .string v, .bool false, .int .i64 (tm + d)] (fun _ => False) rfl rfl (Hox.out.alloc _) Hbx.out (Hkr.out _ _) (by omega) (by simp only [maxLen]; omega) (by omega) ?_; intro v16 w16 ho16 hg16 ha16; have hb16 := ((Below.refl w.heap.size w9).alloc (by omega) _).grown hg16 (by simp; omega) (fun j hj => (Hox.out.at hj).1); have hq16 := Hq0.out.grown HQX.out.1 (by omega) hg16 (fun j hj => (Hox.out.at hj).1); have H16 := Lib.hid (And.intro ho16 (And.intro hq16 hb16)); clear ho16 hg16 ha16 hb16 hq16))
              refine ⟨⟨lk.length + 1, lk ++ [(key, v, false, tm + d)], y5, key, by omega, by rw [Int.natCast_succ], rfl, by omega, by rw [List.length_append]; rfl, Lib.hid ?_, H16.out.2.1, H16.out.1, ⟨H16.out.2.2.os.trans HQX.out.2.os, H16.out.2.2.tape.trans HQX.out.2.tape, H16.out.2.2.output.trans HQX.out.2.output, Nat.le_trans HQX.out.2.size (by have := H16.out.2.1.lt; have := H16.out.2.2.size; omega), fun k hk hne => (H16.out.2.2.block k hk).trans (HQX.out.2.block k hk hne)⟩⟩, Hms.out⟩
              rw [Hk.out, Hr4.out]
              exact if_neg (by decide)
  
      · have hno := goonB_no (by assumption) (by rw [← HN.out]; exact hj)
        have hfin := Lib.hid (Hre.out.trans (recsR_stop (by rcases hno with h | h; exact .inl (by rw [HN.out]; omega); exact .inr h)))
        clear hno
        go_ret
        exact ⟨_, y, rfl, by rw [hfin.out]; exact HQ2.out.2.1, HQ2.out.1, HQ2.out.2.2⟩
end Go.Proofs.Ytaomhedjamnloaa
