/- Contract of rec: read. -/
import Derived.Test.YtaomhedjamnloaaRecE
import Derived.Test.YtaomhedjamnloaaRecP2
import Derived.Test.YtaomhedjamnloaaRegion3
set_option linter.unusedVariables false
set_option linter.unusedSimpArgs false
namespace Go.Proofs.Ytaomhedjamnloaa
open Go Go.RowKit

theorem TextR_most (x : RdM) (most : Int) : (TextR x most).1.size ≤ (max most 0).toNat := by
  unfold TextR
  split
  · split
    · split
      · exact Nat.zero_le _
      · split
        · exact Nat.zero_le _
        · rename_i h1 h2
          show (((uintR x).2.bs.drop (uintR x).2.pos).take (uintR x).1).toArray.size ≤ _
          simp only [List.size_toArray, List.length_take]
          omega
    · exact Nat.zero_le _
  · exact Nat.zero_le _
def recC (r : Rc) : Array Value := #[.string r.1, .string r.2.1, .bool r.2.2.1, .int .i64 r.2.2.2]
def SmallR (r : Rc) : Prop := r.1.size ≤ 3000 ∧ r.2.1.size ≤ 3000 ∧ I64 r.2.2.2
def ReadPost (w : World) (B g : Nat) (A : Option Addr) (c : Nat) (q : Option (Rc × RdM)) (e : Ending) (w' : World) : Prop :=
  ∃ r ok, e = .returned (.tuple #[.agg (recC r), .bool ok]) ∧ Mut g w w' ∧ SmallR r ∧ (match q with | some p => ok = true ∧ r = p.1 ∧ RdAt w' B g A c p.2 | none => ok = false)
theorem size_str : (Try.prog.info? 9).map (·.size) = some 1 := by kernel_rfl
theorem size_rec : (Try.prog.info? 54).map (·.size) = some 4 := by kernel_rfl
theorem recC_one (r : Rc) : (recC r).all (·.oneCell') = true := by simp [recC, Value.oneCell']
theorem PutAt.mut {g r : Nat} {o : Obj} {w w0 w' : World} (h : PutAt r o w0 w') (hm : Mut g w w0) (hr : w.heap.size ≤ r) : Mut g w w' :=
  ⟨h.os.trans hm.os, h.tape.trans hm.tape, h.output.trans hm.output, by rw [h.size]; exact hm.size, fun k hk hg => (h.block k (by omega)).trans (hm.block k hk hg)⟩
theorem PutAt.rd {g r : Nat} {o : Obj} {w w' : World} {B : Nat} {A : Option Addr} {c : Nat} {x : RdM} (h : PutAt r o w w') (hr : RdAt w B g A c x) (hg : g ≠ r) (hA : ∀ a, A = some a → a.block ≠ r) : RdAt w' B g A c x :=
  hr.move (by rw [h.size]; exact Nat.le_refl _) fun k hk hor => h.block k (by
    rcases hor with rfl | ⟨a, ha, rfl⟩
    · exact hg
    · exact hA a ha)
theorem One.rd {g r : Nat} {C : Obj} {w w' : World} {B : Nat} {A : Option Addr} {c : Nat} {x : RdM} (h : One r C w w') (hr : RdAt w B g A c x) (hg : g ≠ r) (hA : ∀ a, A = some a → a.block ≠ r) : RdAt w' B g A c x :=
  hr.move h.size fun k hk hor => h.block k hk (by
    rcases hor with rfl | ⟨a, ha, rfl⟩
    · exact hg
    · exact hA a ha)
theorem key_eq (a s : ByteArray) (n : Nat) : a.extract 0 n ++ s = ⟨(a.data.toList.take n ++ s.data.toList).toArray⟩ := by
  apply ByteArray.ext
  apply Array.ext'
  simp [ByteArray.data_extract]
theorem One.mut {g r : Nat} {C : Obj} {w w0 w' : World} (h : One r C w0 w') (hm : Mut g w w0) (hr : w.heap.size ≤ r) : Mut g w w' :=
  ⟨h.os.trans hm.os, h.tape.trans hm.tape, h.output.trans hm.output, Nat.le_trans hm.size h.size, fun k hk hg => (h.block k (Nat.lt_of_lt_of_le hk hm.size) (by omega)).trans (hm.block k hk hg)⟩
theorem WithinR_i64 (x : RdM) (lo hi : Int) (h : lo ≤ 0 ∧ 0 ≤ hi) : lo ≤ (WithinR x lo hi).1 ∧ (WithinR x lo hi).1 ≤ hi := by
  unfold WithinR
  split
  · split
    · split
      · exact h
      · omega
    · exact h
  · exact h
set_option maxRecDepth 8000 in
set_option maxHeartbeats 1600000 in
theorem read_calls (w : World) (B g : Nat) (A : Option Addr) (c : Nat) (x : RdM) (h : RdAt w B g A c x) (time : Int) (ht : 0 ≤ time ∧ time ≤ 1099511627776) (a : ByteArray) (ha : a.size ≤ 3000) :
    Calls Try.prog 61 #[.pointer (some ⟨g, 0, none⟩), .int .i64 time, .string a] w (ReadPost w B g A c (readR x time a)) := by
  have hgl := h.lt
  have hfar := fun ad (e : A = some ad) => (h.far ad e).2.2
  obtain ⟨h1, h3, h4⟩ := one_new w (.cells #[.string ⟨#[]⟩, .string ⟨#[]⟩, .bool false, .int .i64 0] 54)
  have hrd1 := h.ext h3
  have HW := Lib.hid (rdWithin_calls _ B g A c x hrd1 (-1099511627776) 1099511627776)
  have hti := WithinR_i64 x (-1099511627776) 1099511627776 (by decide)
  obtain ⟨Q, hQ⟩ : ∃ q, q = readR x time a := ⟨_, rfl⟩
  rw [← hQ]
  unfold readR at hQ
  simp only at hQ
  have HQ2 := Lib.hid hQ
  clear hQ
  generalize WithinR x (-1099511627776) 1099511627776 = T at *
  obtain ⟨t, x1⟩ := T
  simp only at HQ2 HW hti
  go_enter Try.func61, Try.ntmps61
  go_upto_region 1 with fail
  generalize hw1 : w.alloc (.cells #[.string ⟨#[]⟩, .string ⟨#[]⟩, .bool false, .int .i64 0] 54) = w1 at *
  clear hw1
  go_wp2_with fail
  refine HW.out.mono ?_
  rintro e w2 ⟨rfl, hrd2, hm2⟩
  have HF := Lib.hid (rdFlag_calls _ B g A c x1 hrd2)
  generalize FlagR x1 = G at *
  obtain ⟨f, x2⟩ := G
  simp only at HQ2 HF
  go_wp2_with fail
  refine HF.out.mono ?_
  rintro e w3 ⟨rfl, hrd3, hm3⟩
  have hwt : -9223372036854775808 ≤ time + t ∧ time + t ≤ 9223372036854775807 := by omega
  have hs3 := hm3.size
  have hs2 := hm2.size
  obtain ⟨j1, j3, j4⟩ := one_new w3 (.cells #[.string ⟨#[]⟩, .string ⟨#[]⟩, .bool f, .int .i64 (time + t)] 54)
  have hrd4 := hrd3.ext j3
  have HU := Lib.hid (upto_calls _ B g A c x2 hrd4 1024 (by decide))
  have hn0 : 0 ≤ (uptoR x2 1024).1 ∧ (uptoR x2 1024).1 ≤ 1025 := by unfold uptoR; simp only; split <;> omega
  generalize uptoR x2 1024 = U at *
  obtain ⟨n, x3⟩ := U
  simp only at HQ2 HU hn0
  obtain ⟨nn, rfl⟩ := Int.eq_ofNat_of_zero_le hn0.1
  have hr3 : w3.heap[w.heap.size]? = some (.cells #[.string ⟨#[]⟩, .string ⟨#[]⟩, .bool false, .int .i64 0] 54 (0, 0)) := (hm3.block _ (by omega) (by omega)).trans ((hm2.block _ (by omega) (by omega)).trans h1)
  have hr4 := (j3.block _ (by omega)).trans hr3
  have hm4 := (((Mut.of (g := g) h3).trans hm2).trans hm3).trans (Mut.of j3)
  clear HW HF h1 h3 hm2 hm3 hrd1 hrd2 hrd3 hr3
  go_wp2_with fail
  generalize hw4 : w3.alloc (.cells #[.string ⟨#[]⟩, .string ⟨#[]⟩, .bool f, .int .i64 (time + t)] 54) = w4 at *
  clear hw4
  refine HU.out.mono ?_
  rintro e w5 ⟨rfl, hrd5, hm5⟩
  have HT := Lib.hid (rdText_calls _ B g A c x3 hrd5 1024 (by decide))
  have hsz := TextR_most x3 1024
  generalize TextR x3 1024 = V at *
  obtain ⟨s, x4⟩ := V
  simp only at HQ2 HT hsz
  go_wp2_with fail
  refine HT.out.mono ?_
  rintro e w6 ⟨rfl, hrd6, hm6⟩
  have hs5 := hm5.size
  have hs6 := hm6.size
  have hr6 := (hm6.block w.heap.size (by omega) (by omega)).trans ((hm5.block _ (by omega) (by omega)).trans hr4)
  have hq6 := (hm6.block w3.heap.size (by omega) (by omega)).trans ((hm5.block _ (by omega) (by omega)).trans j1)
  have hm6' := (hm4.trans hm5).trans hm6
  clear HU HT hrd4 hrd5 hm4 hm5 hm6 hr4 j1 j3
  by_cases hbig : (a.size : Int) < (nn : Int)
  · have hQ := HQ2.out
    rw [if_pos hbig] at hQ
    have HQ := Lib.hid hQ
    clear hQ HQ2
    go_wp2_with (first
      | (refine gate_op (p := .load 54 (.tmp 9)) rfl ?_; go_must (refine wpList_load_row rfl 54 (.tmp 9) rfl w3.heap.size rfl _ #[.string ⟨#[]⟩, .string ⟨#[]⟩, .bool f, .int .i64 (time + t)] (0, 0) _ hq6 Try.underlying54 rfl size_rec ?_))
      | (refine gate_op (p := .store 54 (.tmp 6) (.tmp 28)) rfl ?_; go_must (refine put_row rfl 54 (.tmp 6) (.tmp 28) rfl w.heap.size #[.string ⟨#[]⟩, .string ⟨#[]⟩, .bool f, .int .i64 (time + t)] rfl rfl _ _ hr6 size_rec rfl (recC_one (⟨#[]⟩, ⟨#[]⟩, f, time + t)) ?_; intro w7 hp7)))
    refine bodyPost_ret (results_row2 rfl _ _ w.heap.size _ _ _ _ rfl hp7.obj Try.underlying54 rfl size_rec) rfl ?_
    rw [HQ.out]
    exact ⟨(⟨#[]⟩, ⟨#[]⟩, f, time + t), false, rfl, hp7.mut hm6' (Nat.le_refl _), ⟨Nat.zero_le _, Nat.zero_le _, hwt⟩, rfl⟩
  · have hQ := HQ2.out
    rw [if_neg hbig] at hQ
    simp only [Int.toNat_natCast] at hQ
    rw [← key_eq] at hQ
    have HQ := Lib.hid hQ
    clear hQ HQ2
    have hgr : g ≠ w.heap.size := by omega
    have hgq : g ≠ w3.heap.size := by omega
    have hAr : ∀ ad, A = some ad → ad.block ≠ w.heap.size := fun ad e => by have := hfar ad e; omega
    have hAq : ∀ ad, A = some ad → ad.block ≠ w3.heap.size := fun ad e => by have := hfar ad e; omega
    have hks : (a.extract 0 nn ++ s).size ≤ 3000 := by rw [ByteArray.size_append, ByteArray.size_extract]; omega
    have HAr := Lib.hid hAr
    have HAq := Lib.hid hAq
    clear hAr hAq hfar
    have hn3 : (nn : Int) ≤ a.size := by omega
    go_upto_if 37 with (refine gate_op (p := .store 9 (.tmp 34) (.tmp 33)) rfl ?_; go_must (refine put_cell rfl 9 (.tmp 34) (.tmp 33) rfl w3.heap.size 0 (.string (a.extract 0 nn ++ s)) rfl rfl rfl _ _ hq6 size_str (show 0 < 4 by decide) ?_; intro w7 hp7; have hq7 := hp7.obj; have c2 := (cell_of hq7 2).trans rfl))
    have hrd7 := hp7.rd hrd6 hgq HAq.out
    have hm7 := hp7.mut hm6' (by omega)
    have hr7 := (hp7.block w.heap.size (by omega)).trans hr6
    have Hq7 := Lib.hid (show w7.heap[w3.heap.size]? = some (.cells #[.string (a.extract 0 nn ++ s), .string ⟨#[]⟩, .bool f, .int .i64 (time + t)] 54 (0, 0)) from hq7)
    have hs7 := hp7.size
    clear hp7 hr6 hq6 hrd6 hm6' hq7
    generalize a.extract 0 nn ++ s = key at *
    go_cut [10] (fun u wx => u = .int .i64 nn ∧ ∃ v x5, Hid ((if f = true then ((⟨#[]⟩ : ByteArray), x4) else TextR x4 1024) = (v, x5)) ∧ v.size ≤ 1024 ∧ RdAt wx B g A c x5 ∧ Mut g w wx ∧ w7.heap.size ≤ wx.heap.size ∧ wx.heap[w.heap.size]? = some (.cells #[.string ⟨#[]⟩, .string ⟨#[]⟩, .bool false, .int .i64 0] 54 (0, 0)) ∧ wx.heap[w3.heap.size]? = some (.cells #[.string key, .string v, .bool f, .int .i64 (time + t)] 54 (0, 0)))
    case first =>
      cases f with
      | true =>
        go_wp2
        go_meet
        exact ⟨rfl, ⟨#[]⟩, x4, Lib.hid rfl, Nat.zero_le _, hrd7, hm7, Nat.le_refl _, hr7, Hq7.out⟩
      | false =>
        have HT := Lib.hid (rdText_calls _ B g A c x4 hrd7 1024 (by decide))
        have hsz5 := TextR_most x4 1024
        generalize hV : TextR x4 1024 = V at *
        obtain ⟨v, x5⟩ := V
        have HV := Lib.hid hV
        clear hV
        simp only at HT hsz5
        go_wp2_with fail
        refine HT.out.mono ?_
        rintro e w8 ⟨rfl, hrd8, hm8⟩
        have hs8 := hm8.size
        have hr8 := (hm8.block w.heap.size (by omega) (by omega)).trans hr7
        have hq8 := (hm8.block w3.heap.size (by omega) (by omega)).trans Hq7.out
        go_wp2_with (refine gate_op (p := .store 9 (.tmp 40) (.tmp 39)) rfl ?_; go_must (refine put_cell rfl 9 (.tmp 40) (.tmp 39) rfl w3.heap.size 1 (.string v) rfl rfl rfl _ _ hq8 size_str (show 1 < 4 by decide) ?_; intro w9 hp9))
        go_meet
        refine ⟨rfl, v, x5, Lib.hid (by rw [if_neg (by decide)]), by omega, hp9.rd hrd8 hgq HAq.out, hp9.mut (hm7.trans hm8) (by omega), by rw [hp9.size]; omega, (hp9.block w.heap.size (by omega)).trans hr8, hp9.obj⟩
    case rest =>
      obtain ⟨rfl, v, x5, HV, hv5, hrd9, hm9, hs9, hr9, hq9⟩ := hcut
      have hQ := HQ.out
      rw [HV.out] at hQ
      simp only at hQ
      have HQ := Lib.hid hQ
      clear hQ HV hr7 Hq7 hrd7 hm7
      have hrl : w.heap.size < wc.heap.size := by omega
      have Hq9 := Lib.hid (fun W (hE : One w.heap.size (.cells #[.string key, .string v, .bool f, .int .i64 (time + t)] 54 (0, 0)) wc W) => (hE.block w3.heap.size (Array.getElem?_eq_some_iff.1 hq9).1 (by omega)).trans hq9)
      have hn9 : ∀ W, One w.heap.size (.cells #[.string key, .string v, .bool f, .int .i64 (time + t)] 54 (0, 0)) wc W → ∃ cs : Array Value, W.heap[w.heap.size]? = some (.cells cs 54 (0, 0)) ∧ cs.size = 4 := fun W hE => by
        rcases hE.one with h | h
        · exact ⟨_, h.trans hr9, rfl⟩
        · exact ⟨_, h, rfl⟩
      have Hal := Lib.hid (fun W => alike_calls W a key (by omega) (by omega))
      obtain ⟨nk, hnk⟩ : ∃ nk, nk = keyN a key := ⟨_, rfl⟩
      rw [← hnk] at Hal
      have Hnk := Lib.hid hnk
      clear hnk hr9 hq9
      go_upto_region 10 with fail
      by_cases he0 : x5.err = 0
      · by_cases hne : nk = nn
        · have hne' := hne.symm
          subst hne'
          refine wp_region_stepsB (One w.heap.size (.cells #[.string key, .string v, .bool f, .int .i64 (time + t)] 54 (0, 0))) (One.refl w.heap.size (.cells #[.string key, .string v, .bool f, .int .i64 (time + t)] 54 (0, 0))) (One.trans w.heap.size (.cells #[.string key, .string v, .bool f, .int .i64 (time + t)] 54 (0, 0))) (One.drew w.heap.size (.cells #[.string key, .string v, .bool f, .int .i64 (time + t)] 54 (0, 0))) [.eq (.agg #[.string key, .string v, .bool f, .int .i64 (time + t)]), .eq (.pointer (some ⟨g, 0, none⟩)), .eq (.int .i64 0), .eq (.bool true), .eq (.bool true), .eq (.string a), .eq (.pointer (some ⟨w3.heap.size, 0, none⟩)), .eq (.string key), .eq (.int .i64 nn), .eq (.int .i64 nn), .eq (.bool true), .eq (.bool true), .done w.heap.size (.cells #[.string key, .string v, .bool f, .int .i64 (time + t)] 54 (0, 0)), .eq (.bool true)] (by kernel_rfl) (by kernel_rfl) (fun j o' hj hd v v' w h => by
  have hj2 := none_at (n := 12) (by kernel_rfl) hj hd
  subst hj2
  exact h) ?_ ?_
          · refine ⟨?_, ?_, ?_, ?_, ?_, ?_, ?_, ?_, ?_, ?_, ?_, ?_, ?_, ?_, trivial⟩
            · intro S W K hE hf hd hK
              have f9 : S.tmps.getD 9 undef = .pointer (some ⟨w3.heap.size, 0, none⟩) := hf 9 (by kernel_rfl)
              refine want_free rfl ?_
              rw [Array.getD_eq_getD_getElem?] at f9
              have hh := Hq9.out W hE
              refine wp_load_row 54 (.tmp 9) rfl w3.heap.size (by show S.tmps.getD 9 undef = _; rw [Array.getD_eq_getD_getElem?]; exact f9) _ _ _ _ hh Try.underlying54 rfl size_rec ?_
              exact hK _ _ (One.refl _ _ _) rfl
            · intro S W K hE hf hd hK
              have f0 : S.tmps.getD 0 undef = .pointer (some ⟨g, 0, none⟩) := hf 0 (by kernel_rfl)
              refine want_free rfl ?_
              rw [Array.getD_eq_getD_getElem?] at f0
              go_simp
              exact hK _ _ (One.refl w.heap.size (.cells #[.string key, .string v, .bool f, .int .i64 (time + t)] 54 (0, 0)) _) (rfl)
            · intro S W K hE hf hd hK
              have d42 : S.tmps.getD 42 undef = (.pointer (some ⟨g, 0, none⟩)) := hd 1 _ rfl (by kernel_rfl)
              refine want_free rfl ?_
              rw [Array.getD_eq_getD_getElem?] at d42
              go_simp
              refine (rdErr_calls W B g A c x5 (hE.rd hrd9 hgr HAr.out)).mono ?_
              rintro e W' ⟨rfl, rfl⟩
              exact hK _ _ (One.refl _ _ _) (by first | rfl | (rw [he0]; rfl))
            · intro S W K hE hf hd hK
              have d43 : S.tmps.getD 43 undef = (.int .i64 0) := hd 2 _ rfl (by kernel_rfl)
              refine want_free rfl ?_
              rw [Array.getD_eq_getD_getElem?] at d43
              go_simp
              exact hK _ _ (One.refl w.heap.size (.cells #[.string key, .string v, .bool f, .int .i64 (time + t)] 54 (0, 0)) _) (rfl)
            · intro S W K hE hf hd hK
              have d44 : S.tmps.getD 44 undef = (.bool true) := hd 3 _ rfl (by kernel_rfl)
              refine want_free rfl ?_
              rw [Array.getD_eq_getD_getElem?] at d44
              go_simp
              exact hK _ _ (One.refl w.heap.size (.cells #[.string key, .string v, .bool f, .int .i64 (time + t)] 54 (0, 0)) _) (rfl)
            · intro S W K hE hf hd hK
              have f2 : S.tmps.getD 2 undef = .string a := hf 2 (by kernel_rfl)
              have d45 : S.tmps.getD 45 undef = (.bool true) := hd 4 _ rfl (by kernel_rfl)
              refine want_then (t := 45) d45 rfl rfl rfl ?_
              rw [Array.getD_eq_getD_getElem?] at f2 d45
              go_simp
              exact hK _ _ (One.refl w.heap.size (.cells #[.string key, .string v, .bool f, .int .i64 (time + t)] 54 (0, 0)) _) (rfl)
            · intro S W K hE hf hd hK
              have f9 : S.tmps.getD 9 undef = .pointer (some ⟨w3.heap.size, 0, none⟩) := hf 9 (by kernel_rfl)
              have d45 : S.tmps.getD 45 undef = (.bool true) := hd 4 _ rfl (by kernel_rfl)
              refine want_then (t := 45) d45 rfl rfl rfl ?_
              rw [Array.getD_eq_getD_getElem?] at f9 d45
              go_simp
              exact hK _ _ (One.refl w.heap.size (.cells #[.string key, .string v, .bool f, .int .i64 (time + t)] 54 (0, 0)) _) (rfl)
            · intro S W K hE hf hd hK
              have d47 : S.tmps.getD 47 undef = (.pointer (some ⟨w3.heap.size, 0, none⟩)) := hd 6 _ rfl (by kernel_rfl)
              have d45 : S.tmps.getD 45 undef = (.bool true) := hd 4 _ rfl (by kernel_rfl)
              refine want_then (t := 45) d45 rfl rfl rfl ?_
              rw [Array.getD_eq_getD_getElem?] at d47 d45
              have hh := Hq9.out W hE
              have c0 := (cell_of hh 0).trans rfl
              go_simp
              exact hK _ _ (One.refl _ _ _) rfl
            · intro S W K hE hf hd hK
              have d46 : S.tmps.getD 46 undef = (.string a) := hd 5 _ rfl (by kernel_rfl)
              have d48 : S.tmps.getD 48 undef = (.string key) := hd 7 _ rfl (by kernel_rfl)
              have d45 : S.tmps.getD 45 undef = (.bool true) := hd 4 _ rfl (by kernel_rfl)
              refine want_then (t := 45) d45 rfl rfl rfl ?_
              rw [Array.getD_eq_getD_getElem?] at d46 d48 d45
              go_simp
              refine (Hal.out W).mono ?_
              rintro e W' ⟨rfl, hD⟩
              exact hK _ _ (One.of (Nat.lt_of_lt_of_le hrl hE.size) hD.below) rfl
            · intro S W K hE hf hd hK
              have f10 : S.tmps.getD 10 undef = .int .i64 nn := hf 10 (by kernel_rfl)
              have d45 : S.tmps.getD 45 undef = (.bool true) := hd 4 _ rfl (by kernel_rfl)
              refine want_then (t := 45) d45 rfl rfl rfl ?_
              rw [Array.getD_eq_getD_getElem?] at f10 d45
              go_simp
              exact hK _ _ (One.refl w.heap.size (.cells #[.string key, .string v, .bool f, .int .i64 (time + t)] 54 (0, 0)) _) (rfl)
            · intro S W K hE hf hd hK
              have d49 : S.tmps.getD 49 undef = (.int .i64 nn) := hd 8 _ rfl (by kernel_rfl)
              have d50 : S.tmps.getD 50 undef = (.int .i64 nn) := hd 9 _ rfl (by kernel_rfl)
              have d45 : S.tmps.getD 45 undef = (.bool true) := hd 4 _ rfl (by kernel_rfl)
              refine want_then (t := 45) d45 rfl rfl rfl ?_
              rw [Array.getD_eq_getD_getElem?] at d49 d50 d45
              go_simp
              exact hK _ _ (One.refl w.heap.size (.cells #[.string key, .string v, .bool f, .int .i64 (time + t)] 54 (0, 0)) _) (rfl)
            · intro S W K hE hf hd hK
              have d45 : S.tmps.getD 45 undef = (.bool true) := hd 4 _ rfl (by kernel_rfl)
              have d51 : S.tmps.getD 51 undef = (.bool true) := hd 10 _ rfl (by kernel_rfl)
              refine want_free rfl ?_
              rw [Array.getD_eq_getD_getElem?] at d45 d51
              go_simp
              exact hK _ _ (One.refl w.heap.size (.cells #[.string key, .string v, .bool f, .int .i64 (time + t)] 54 (0, 0)) _) (rfl)
            · intro S W K hE hf hd hK
              have f6 : S.tmps.getD 6 undef = .pointer (some ⟨w.heap.size, 0, none⟩) := hf 6 (by kernel_rfl)
              have d41 : S.tmps.getD 41 undef = (.agg #[.string key, .string v, .bool f, .int .i64 (time + t)]) := hd 0 _ rfl (by kernel_rfl)
              refine want_free rfl ?_
              rw [Array.getD_eq_getD_getElem?] at f6 d41
              have hr := hn9 W hE
              obtain ⟨cs, hr, hcs⟩ := hr
              refine wp_store_row 54 (.tmp 6) (.tmp 41) rfl w.heap.size #[.string key, .string v, .bool f, .int .i64 (time + t)] (by show S.tmps.getD 6 undef = _; rw [Array.getD_eq_getD_getElem?]; exact f6) (by show S.tmps.getD 41 undef = _; rw [Array.getD_eq_getD_getElem?]; exact d41) _ _ hr size_rec hcs (recC_one (key, v, f, time + t)) ?_
              exact hK _ _ (One.put rfl rfl rfl (by rw [setRow_size]; exact Nat.le_refl _) (fun k hk => setRow_other _ _ _ _ hk) (setRow_heap _ _ _ _ _ _ hr)) (setRow_heap _ _ _ _ _ _ hr)
            · intro S W K hE hf hd hK
              have d52 : S.tmps.getD 52 undef = (.bool true) := hd 11 _ rfl (by kernel_rfl)
              refine want_free rfl ?_
              rw [Array.getD_eq_getD_getElem?] at d52
              go_simp
              exact hK _ _ (One.refl w.heap.size (.cells #[.string key, .string v, .bool f, .int .i64 (time + t)] 54 (0, 0)) _) (rfl)
          · intro vs W hE hV
            have v0 : vs 0 = (.agg #[.string key, .string v, .bool f, .int .i64 (time + t)]) := hV 0 _ rfl
            have v1 : vs 1 = (.pointer (some ⟨g, 0, none⟩)) := hV 1 _ rfl
            have v2 : vs 2 = (.int .i64 0) := hV 2 _ rfl
            have v3 : vs 3 = (.bool true) := hV 3 _ rfl
            have v4 : vs 4 = (.bool true) := hV 4 _ rfl
            have v5 : vs 5 = (.string a) := hV 5 _ rfl
            have v6 : vs 6 = (.pointer (some ⟨w3.heap.size, 0, none⟩)) := hV 6 _ rfl
            have v7 : vs 7 = (.string key) := hV 7 _ rfl
            have v8 : vs 8 = (.int .i64 nn) := hV 8 _ rfl
            have v9 : vs 9 = (.int .i64 nn) := hV 9 _ rfl
            have v10 : vs 10 = (.bool true) := hV 10 _ rfl
            have v11 : vs 11 = (.bool true) := hV 11 _ rfl
            have v12 := hV 12 _ rfl
            have v13 : vs 13 = (.bool true) := hV 13 _ rfl
            clear hV
            set_option maxRecDepth 100000 in simp only [putAll, List.map_cons, List.map_nil, List.length_cons, List.length_nil, Nat.reduceAdd, List.range_succ, List.range_zero, List.nil_append, List.cons_append]
            set_option maxRecDepth 100000 in go_simp
            have hfin := v12
            clear v0 v1 v2 v3 v4 v5 v6 v7 v8 v9 v10 v11 v12 v13
            go_wp2_with fail
            refine bodyPost_ret (results_row2 rfl _ _ w.heap.size _ _ _ _ rfl hfin Try.underlying54 rfl size_rec) rfl ?_
            rw [HQ.out, if_pos ⟨he0, by rw [Hnk.out]⟩]
            exact ⟨(key, v, f, time + t), true, rfl, hE.mut hm9 (Nat.le_refl _), ⟨hks, Nat.le_trans hv5 (by decide), hwt⟩, rfl, rfl, hE.rd hrd9 hgr HAr.out⟩
        · have hb1 : ((nk : Int) == (nn : Int)) = false := by rw [beq_eq_false_iff_ne]; omega
          have hb2 : decide ((nk : Int) = (nn : Int)) = false := by rw [decide_eq_false_iff_not]; omega
          refine wp_region_stepsB (One w.heap.size (.cells #[.string key, .string v, .bool f, .int .i64 (time + t)] 54 (0, 0))) (One.refl w.heap.size (.cells #[.string key, .string v, .bool f, .int .i64 (time + t)] 54 (0, 0))) (One.trans w.heap.size (.cells #[.string key, .string v, .bool f, .int .i64 (time + t)] 54 (0, 0))) (One.drew w.heap.size (.cells #[.string key, .string v, .bool f, .int .i64 (time + t)] 54 (0, 0))) [.eq (.agg #[.string key, .string v, .bool f, .int .i64 (time + t)]), .eq (.pointer (some ⟨g, 0, none⟩)), .eq (.int .i64 0), .eq (.bool true), .eq (.bool true), .eq (.string a), .eq (.pointer (some ⟨w3.heap.size, 0, none⟩)), .eq (.string key), .eq (.int .i64 nk), .eq (.int .i64 nn), .eq (.bool false), .eq (.bool false), .done w.heap.size (.cells #[.string key, .string v, .bool f, .int .i64 (time + t)] 54 (0, 0)), .eq (.bool false)] (by kernel_rfl) (by kernel_rfl) (fun j o' hj hd v v' w h => by
  have hj2 := none_at (n := 12) (by kernel_rfl) hj hd
  subst hj2
  exact h) ?_ ?_
          · refine ⟨?_, ?_, ?_, ?_, ?_, ?_, ?_, ?_, ?_, ?_, ?_, ?_, ?_, ?_, trivial⟩
            · intro S W K hE hf hd hK
              have f9 : S.tmps.getD 9 undef = .pointer (some ⟨w3.heap.size, 0, none⟩) := hf 9 (by kernel_rfl)
              refine want_free rfl ?_
              rw [Array.getD_eq_getD_getElem?] at f9
              have hh := Hq9.out W hE
              refine wp_load_row 54 (.tmp 9) rfl w3.heap.size (by show S.tmps.getD 9 undef = _; rw [Array.getD_eq_getD_getElem?]; exact f9) _ _ _ _ hh Try.underlying54 rfl size_rec ?_
              exact hK _ _ (One.refl _ _ _) rfl
            · intro S W K hE hf hd hK
              have f0 : S.tmps.getD 0 undef = .pointer (some ⟨g, 0, none⟩) := hf 0 (by kernel_rfl)
              refine want_free rfl ?_
              rw [Array.getD_eq_getD_getElem?] at f0
              go_simp
              exact hK _ _ (One.refl w.heap.size (.cells #[.string key, .string v, .bool f, .int .i64 (time + t)] 54 (0, 0)) _) (rfl)
            · intro S W K hE hf hd hK
              have d42 : S.tmps.getD 42 undef = (.pointer (some ⟨g, 0, none⟩)) := hd 1 _ rfl (by kernel_rfl)
              refine want_free rfl ?_
              rw [Array.getD_eq_getD_getElem?] at d42
              go_simp
              refine (rdErr_calls W B g A c x5 (hE.rd hrd9 hgr HAr.out)).mono ?_
              rintro e W' ⟨rfl, rfl⟩
              exact hK _ _ (One.refl _ _ _) (by first | rfl | (rw [he0]; rfl))
            · intro S W K hE hf hd hK
              have d43 : S.tmps.getD 43 undef = (.int .i64 0) := hd 2 _ rfl (by kernel_rfl)
              refine want_free rfl ?_
              rw [Array.getD_eq_getD_getElem?] at d43
              go_simp
              exact hK _ _ (One.refl w.heap.size (.cells #[.string key, .string v, .bool f, .int .i64 (time + t)] 54 (0, 0)) _) (rfl)
            · intro S W K hE hf hd hK
              have d44 : S.tmps.getD 44 undef = (.bool true) := hd 3 _ rfl (by kernel_rfl)
              refine want_free rfl ?_
              rw [Array.getD_eq_getD_getElem?] at d44
              go_simp
              exact hK _ _ (One.refl w.heap.size (.cells #[.string key, .string v, .bool f, .int .i64 (time + t)] 54 (0, 0)) _) (rfl)
            · intro S W K hE hf hd hK
              have f2 : S.tmps.getD 2 undef = .string a := hf 2 (by kernel_rfl)
              have d45 : S.tmps.getD 45 undef = (.bool true) := hd 4 _ rfl (by kernel_rfl)
              refine want_then (t := 45) d45 rfl rfl rfl ?_
              rw [Array.getD_eq_getD_getElem?] at f2 d45
              go_simp
              exact hK _ _ (One.refl w.heap.size (.cells #[.string key, .string v, .bool f, .int .i64 (time + t)] 54 (0, 0)) _) (rfl)
            · intro S W K hE hf hd hK
              have f9 : S.tmps.getD 9 undef = .pointer (some ⟨w3.heap.size, 0, none⟩) := hf 9 (by kernel_rfl)
              have d45 : S.tmps.getD 45 undef = (.bool true) := hd 4 _ rfl (by kernel_rfl)
              refine want_then (t := 45) d45 rfl rfl rfl ?_
              rw [Array.getD_eq_getD_getElem?] at f9 d45
              go_simp
              exact hK _ _ (One.refl w.heap.size (.cells #[.string key, .string v, .bool f, .int .i64 (time + t)] 54 (0, 0)) _) (rfl)
            · intro S W K hE hf hd hK
              have d47 : S.tmps.getD 47 undef = (.pointer (some ⟨w3.heap.size, 0, none⟩)) := hd 6 _ rfl (by kernel_rfl)
              have d45 : S.tmps.getD 45 undef = (.bool true) := hd 4 _ rfl (by kernel_rfl)
              refine want_then (t := 45) d45 rfl rfl rfl ?_
              rw [Array.getD_eq_getD_getElem?] at d47 d45
              have hh := Hq9.out W hE
              have c0 := (cell_of hh 0).trans rfl
              go_simp
              exact hK _ _ (One.refl _ _ _) rfl
            · intro S W K hE hf hd hK
              have d46 : S.tmps.getD 46 undef = (.string a) := hd 5 _ rfl (by kernel_rfl)
              have d48 : S.tmps.getD 48 undef = (.string key) := hd 7 _ rfl (by kernel_rfl)
              have d45 : S.tmps.getD 45 undef = (.bool true) := hd 4 _ rfl (by kernel_rfl)
              refine want_then (t := 45) d45 rfl rfl rfl ?_
              rw [Array.getD_eq_getD_getElem?] at d46 d48 d45
              go_simp
              refine (Hal.out W).mono ?_
              rintro e W' ⟨rfl, hD⟩
              exact hK _ _ (One.of (Nat.lt_of_lt_of_le hrl hE.size) hD.below) rfl
            · intro S W K hE hf hd hK
              have f10 : S.tmps.getD 10 undef = .int .i64 nn := hf 10 (by kernel_rfl)
              have d45 : S.tmps.getD 45 undef = (.bool true) := hd 4 _ rfl (by kernel_rfl)
              refine want_then (t := 45) d45 rfl rfl rfl ?_
              rw [Array.getD_eq_getD_getElem?] at f10 d45
              go_simp
              exact hK _ _ (One.refl w.heap.size (.cells #[.string key, .string v, .bool f, .int .i64 (time + t)] 54 (0, 0)) _) (rfl)
            · intro S W K hE hf hd hK
              have d49 : S.tmps.getD 49 undef = (.int .i64 nk) := hd 8 _ rfl (by kernel_rfl)
              have d50 : S.tmps.getD 50 undef = (.int .i64 nn) := hd 9 _ rfl (by kernel_rfl)
              have d45 : S.tmps.getD 45 undef = (.bool true) := hd 4 _ rfl (by kernel_rfl)
              refine want_then (t := 45) d45 rfl rfl rfl ?_
              rw [Array.getD_eq_getD_getElem?] at d49 d50 d45
              go_simp
              exact hK _ _ (One.refl w.heap.size (.cells #[.string key, .string v, .bool f, .int .i64 (time + t)] 54 (0, 0)) _) (rfl)
            · intro S W K hE hf hd hK
              have d45 : S.tmps.getD 45 undef = (.bool true) := hd 4 _ rfl (by kernel_rfl)
              have d51 : S.tmps.getD 51 undef = (.bool false) := hd 10 _ rfl (by kernel_rfl)
              refine want_free rfl ?_
              rw [Array.getD_eq_getD_getElem?] at d45 d51
              go_simp
              exact hK _ _ (One.refl w.heap.size (.cells #[.string key, .string v, .bool f, .int .i64 (time + t)] 54 (0, 0)) _) (rfl)
            · intro S W K hE hf hd hK
              have f6 : S.tmps.getD 6 undef = .pointer (some ⟨w.heap.size, 0, none⟩) := hf 6 (by kernel_rfl)
              have d41 : S.tmps.getD 41 undef = (.agg #[.string key, .string v, .bool f, .int .i64 (time + t)]) := hd 0 _ rfl (by kernel_rfl)
              refine want_free rfl ?_
              rw [Array.getD_eq_getD_getElem?] at f6 d41
              have hr := hn9 W hE
              obtain ⟨cs, hr, hcs⟩ := hr
              refine wp_store_row 54 (.tmp 6) (.tmp 41) rfl w.heap.size #[.string key, .string v, .bool f, .int .i64 (time + t)] (by show S.tmps.getD 6 undef = _; rw [Array.getD_eq_getD_getElem?]; exact f6) (by show S.tmps.getD 41 undef = _; rw [Array.getD_eq_getD_getElem?]; exact d41) _ _ hr size_rec hcs (recC_one (key, v, f, time + t)) ?_
              exact hK _ _ (One.put rfl rfl rfl (by rw [setRow_size]; exact Nat.le_refl _) (fun k hk => setRow_other _ _ _ _ hk) (setRow_heap _ _ _ _ _ _ hr)) (setRow_heap _ _ _ _ _ _ hr)
            · intro S W K hE hf hd hK
              have d52 : S.tmps.getD 52 undef = (.bool false) := hd 11 _ rfl (by kernel_rfl)
              refine want_free rfl ?_
              rw [Array.getD_eq_getD_getElem?] at d52
              go_simp
              exact hK _ _ (One.refl w.heap.size (.cells #[.string key, .string v, .bool f, .int .i64 (time + t)] 54 (0, 0)) _) (rfl)
          · intro vs W hE hV
            have v0 : vs 0 = (.agg #[.string key, .string v, .bool f, .int .i64 (time + t)]) := hV 0 _ rfl
            have v1 : vs 1 = (.pointer (some ⟨g, 0, none⟩)) := hV 1 _ rfl
            have v2 : vs 2 = (.int .i64 0) := hV 2 _ rfl
            have v3 : vs 3 = (.bool true) := hV 3 _ rfl
            have v4 : vs 4 = (.bool true) := hV 4 _ rfl
            have v5 : vs 5 = (.string a) := hV 5 _ rfl
            have v6 : vs 6 = (.pointer (some ⟨w3.heap.size, 0, none⟩)) := hV 6 _ rfl
            have v7 : vs 7 = (.string key) := hV 7 _ rfl
            have v8 : vs 8 = (.int .i64 nk) := hV 8 _ rfl
            have v9 : vs 9 = (.int .i64 nn) := hV 9 _ rfl
            have v10 : vs 10 = (.bool false) := hV 10 _ rfl
            have v11 : vs 11 = (.bool false) := hV 11 _ rfl
            have v12 := hV 12 _ rfl
            have v13 : vs 13 = (.bool false) := hV 13 _ rfl
            clear hV
            set_option maxRecDepth 100000 in simp only [putAll, List.map_cons, List.map_nil, List.length_cons, List.length_nil, Nat.reduceAdd, List.range_succ, List.range_zero, List.nil_append, List.cons_append]
            set_option maxRecDepth 100000 in go_simp
            have hfin := v12
            clear v0 v1 v2 v3 v4 v5 v6 v7 v8 v9 v10 v11 v12 v13
            go_wp2_with fail
            refine bodyPost_ret (results_row2 rfl _ _ w.heap.size _ _ _ _ rfl hfin Try.underlying54 rfl size_rec) rfl ?_
            rw [HQ.out, if_neg (fun h => hne (by have h1 := h.2; have h2 := Hnk.out; omega))]
            exact ⟨(key, v, f, time + t), false, rfl, hE.mut hm9 (Nat.le_refl _), ⟨hks, Nat.le_trans hv5 (by decide), hwt⟩, rfl⟩
      · have hb1 : (x5.err == 0) = false := by rw [beq_eq_false_iff_ne]; exact he0
        refine wp_region_stepsB (One w.heap.size (.cells #[.string key, .string v, .bool f, .int .i64 (time + t)] 54 (0, 0))) (One.refl w.heap.size (.cells #[.string key, .string v, .bool f, .int .i64 (time + t)] 54 (0, 0))) (One.trans w.heap.size (.cells #[.string key, .string v, .bool f, .int .i64 (time + t)] 54 (0, 0))) (One.drew w.heap.size (.cells #[.string key, .string v, .bool f, .int .i64 (time + t)] 54 (0, 0))) [.eq (.agg #[.string key, .string v, .bool f, .int .i64 (time + t)]), .eq (.pointer (some ⟨g, 0, none⟩)), .eq (.int .i64 x5.err), .eq (.bool false), .eq (.bool false), .eq undef, .eq undef, .eq undef, .eq undef, .eq undef, .eq undef, .eq (.bool false), .done w.heap.size (.cells #[.string key, .string v, .bool f, .int .i64 (time + t)] 54 (0, 0)), .eq (.bool false)] (by kernel_rfl) (by kernel_rfl) (fun j o' hj hd v v' w h => by
  have hj2 := none_at (n := 12) (by kernel_rfl) hj hd
  subst hj2
  exact h) ?_ ?_
        · refine ⟨?_, ?_, ?_, ?_, ?_, ?_, ?_, ?_, ?_, ?_, ?_, ?_, ?_, ?_, trivial⟩
          · intro S W K hE hf hd hK
            have f9 : S.tmps.getD 9 undef = .pointer (some ⟨w3.heap.size, 0, none⟩) := hf 9 (by kernel_rfl)
            refine want_free rfl ?_
            rw [Array.getD_eq_getD_getElem?] at f9
            have hh := Hq9.out W hE
            refine wp_load_row 54 (.tmp 9) rfl w3.heap.size (by show S.tmps.getD 9 undef = _; rw [Array.getD_eq_getD_getElem?]; exact f9) _ _ _ _ hh Try.underlying54 rfl size_rec ?_
            exact hK _ _ (One.refl _ _ _) rfl
          · intro S W K hE hf hd hK
            have f0 : S.tmps.getD 0 undef = .pointer (some ⟨g, 0, none⟩) := hf 0 (by kernel_rfl)
            refine want_free rfl ?_
            rw [Array.getD_eq_getD_getElem?] at f0
            go_simp
            exact hK _ _ (One.refl w.heap.size (.cells #[.string key, .string v, .bool f, .int .i64 (time + t)] 54 (0, 0)) _) (rfl)
          · intro S W K hE hf hd hK
            have d42 : S.tmps.getD 42 undef = (.pointer (some ⟨g, 0, none⟩)) := hd 1 _ rfl (by kernel_rfl)
            refine want_free rfl ?_
            rw [Array.getD_eq_getD_getElem?] at d42
            go_simp
            refine (rdErr_calls W B g A c x5 (hE.rd hrd9 hgr HAr.out)).mono ?_
            rintro e W' ⟨rfl, rfl⟩
            exact hK _ _ (One.refl _ _ _) rfl
          · intro S W K hE hf hd hK
            have d43 : S.tmps.getD 43 undef = (.int .i64 x5.err) := hd 2 _ rfl (by kernel_rfl)
            refine want_free rfl ?_
            rw [Array.getD_eq_getD_getElem?] at d43
            go_simp
            exact hK _ _ (One.refl w.heap.size (.cells #[.string key, .string v, .bool f, .int .i64 (time + t)] 54 (0, 0)) _) (rfl)
          · intro S W K hE hf hd hK
            have d44 : S.tmps.getD 44 undef = (.bool false) := hd 3 _ rfl (by kernel_rfl)
            refine want_free rfl ?_
            rw [Array.getD_eq_getD_getElem?] at d44
            go_simp
            exact hK _ _ (One.refl w.heap.size (.cells #[.string key, .string v, .bool f, .int .i64 (time + t)] 54 (0, 0)) _) (rfl)
          · intro S W K hE hf hd hK
            have f2 : S.tmps.getD 2 undef = .string a := hf 2 (by kernel_rfl)
            have d45 : S.tmps.getD 45 undef = (.bool false) := hd 4 _ rfl (by kernel_rfl)
            refine want_else (t := 45) d45 rfl rfl rfl rfl ?_
            exact rfl
          · intro S W K hE hf hd hK
            have f9 : S.tmps.getD 9 undef = .pointer (some ⟨w3.heap.size, 0, none⟩) := hf 9 (by kernel_rfl)
            have d45 : S.tmps.getD 45 undef = (.bool false) := hd 4 _ rfl (by kernel_rfl)
            refine want_else (t := 45) d45 rfl rfl rfl rfl ?_
            exact rfl
          · intro S W K hE hf hd hK
            have d47 : S.tmps.getD 47 undef = undef := hd 6 _ rfl (by kernel_rfl)
            have d45 : S.tmps.getD 45 undef = (.bool false) := hd 4 _ rfl (by kernel_rfl)
            refine want_else (t := 45) d45 rfl rfl rfl rfl ?_
            exact rfl
          · intro S W K hE hf hd hK
            have d46 : S.tmps.getD 46 undef = undef := hd 5 _ rfl (by kernel_rfl)
            have d48 : S.tmps.getD 48 undef = undef := hd 7 _ rfl (by kernel_rfl)
            have d45 : S.tmps.getD 45 undef = (.bool false) := hd 4 _ rfl (by kernel_rfl)
            refine want_else (t := 45) d45 rfl rfl rfl rfl ?_
            exact rfl
          · intro S W K hE hf hd hK
            have f10 : S.tmps.getD 10 undef = .int .i64 nn := hf 10 (by kernel_rfl)
            have d45 : S.tmps.getD 45 undef = (.bool false) := hd 4 _ rfl (by kernel_rfl)
            refine want_else (t := 45) d45 rfl rfl rfl rfl ?_
            exact rfl
          · intro S W K hE hf hd hK
            have d49 : S.tmps.getD 49 undef = undef := hd 8 _ rfl (by kernel_rfl)
            have d50 : S.tmps.getD 50 undef = undef := hd 9 _ rfl (by kernel_rfl)
            have d45 : S.tmps.getD 45 undef = (.bool false) := hd 4 _ rfl (by kernel_rfl)
            refine want_else (t := 45) d45 rfl rfl rfl rfl ?_
            exact rfl
          · intro S W K hE hf hd hK
            have d45 : S.tmps.getD 45 undef = (.bool false) := hd 4 _ rfl (by kernel_rfl)
            have d51 : S.tmps.getD 51 undef = undef := hd 10 _ rfl (by kernel_rfl)
            refine want_free rfl ?_
            rw [Array.getD_eq_getD_getElem?] at d45 d51
            go_simp
            exact hK _ _ (One.refl w.heap.size (.cells #[.string key, .string v, .bool f, .int .i64 (time + t)] 54 (0, 0)) _) (rfl)
          · intro S W K hE hf hd hK
            have f6 : S.tmps.getD 6 undef = .pointer (some ⟨w.heap.size, 0, none⟩) := hf 6 (by kernel_rfl)
            have d41 : S.tmps.getD 41 undef = (.agg #[.string key, .string v, .bool f, .int .i64 (time + t)]) := hd 0 _ rfl (by kernel_rfl)
            refine want_free rfl ?_
            rw [Array.getD_eq_getD_getElem?] at f6 d41
            have hr := hn9 W hE
            obtain ⟨cs, hr, hcs⟩ := hr
            refine wp_store_row 54 (.tmp 6) (.tmp 41) rfl w.heap.size #[.string key, .string v, .bool f, .int .i64 (time + t)] (by show S.tmps.getD 6 undef = _; rw [Array.getD_eq_getD_getElem?]; exact f6) (by show S.tmps.getD 41 undef = _; rw [Array.getD_eq_getD_getElem?]; exact d41) _ _ hr size_rec hcs (recC_one (key, v, f, time + t)) ?_
            exact hK _ _ (One.put rfl rfl rfl (by rw [setRow_size]; exact Nat.le_refl _) (fun k hk => setRow_other _ _ _ _ hk) (setRow_heap _ _ _ _ _ _ hr)) (setRow_heap _ _ _ _ _ _ hr)
          · intro S W K hE hf hd hK
            have d52 : S.tmps.getD 52 undef = (.bool false) := hd 11 _ rfl (by kernel_rfl)
            refine want_free rfl ?_
            rw [Array.getD_eq_getD_getElem?] at d52
            go_simp
            exact hK _ _ (One.refl w.heap.size (.cells #[.string key, .string v, .bool f, .int .i64 (time + t)] 54 (0, 0)) _) (rfl)
        · intro vs W hE hV
          have v0 : vs 0 = (.agg #[.string key, .string v, .bool f, .int .i64 (time + t)]) := hV 0 _ rfl
          have v1 : vs 1 = (.pointer (some ⟨g, 0, none⟩)) := hV 1 _ rfl
          have v2 : vs 2 = (.int .i64 x5.err) := hV 2 _ rfl
          have v3 : vs 3 = (.bool false) := hV 3 _ rfl
          have v4 : vs 4 = (.bool false) := hV 4 _ rfl
          have v5 : vs 5 = undef := hV 5 _ rfl
          have v6 : vs 6 = undef := hV 6 _ rfl
          have v7 : vs 7 = undef := hV 7 _ rfl
          have v8 : vs 8 = undef := hV 8 _ rfl
          have v9 : vs 9 = undef := hV 9 _ rfl
          have v10 : vs 10 = undef := hV 10 _ rfl
          have v11 : vs 11 = (.bool false) := hV 11 _ rfl
          have v12 := hV 12 _ rfl
          have v13 : vs 13 = (.bool false) := hV 13 _ rfl
          clear hV
          set_option maxRecDepth 100000 in simp only [putAll, List.map_cons, List.map_nil, List.length_cons, List.length_nil, Nat.reduceAdd, List.range_succ, List.range_zero, List.nil_append, List.cons_append]
          set_option maxRecDepth 100000 in go_simp
          have hfin := v12
          clear v0 v1 v2 v3 v4 v5 v6 v7 v8 v9 v10 v11 v12 v13
          go_wp2_with fail
          refine bodyPost_ret (results_row2 rfl _ _ w.heap.size _ _ _ _ rfl hfin Try.underlying54 rfl size_rec) rfl ?_
          rw [HQ.out, if_neg (fun h => he0 h.1)]
          exact ⟨(key, v, f, time + t), false, rfl, hE.mut hm9 (Nat.le_refl _), ⟨hks, Nat.le_trans hv5 (by decide), hwt⟩, rfl⟩
end Go.Proofs.Ytaomhedjamnloaa
