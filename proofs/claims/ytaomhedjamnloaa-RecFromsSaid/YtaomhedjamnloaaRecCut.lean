/- Contract: Cut of towpathlaw03. -/
import Derived.Test.YtaomhedjamnloaaRecC
set_option linter.unusedVariables false
set_option linter.unusedSimpArgs false
namespace Go.Proofs.Ytaomhedjamnloaa
open Go Go.RowKit

structure CutOk (b : BtM) : Prop where
  ok : BtOk b
  len : b.l.length ≤ 80
  recs : ∀ r ∈ b.l, r.1.size ≤ 1100 ∧ r.2.1.size ≤ 1100
def CutBt (w : World) (e : Ending) (w' : World) : Prop := ∃ b, CutOk b ∧ BtOwn w b e w'
set_option maxRecDepth 8000 in
set_option maxHeartbeats 1600000 in
theorem cut3_calls (w : World) (B : Nat) (hB : B ≤ w.heap.size) (b : BtM) (A : Option Addr) (c : Nat) (h : BtAt w B b A c) :
    Calls Try.prog 18 #[.agg (btC b A c)] w (CutBt w) := by
  have Hrow := Lib.hid (fun W (hE : Ext w W) => h.row.belowF (fun _ hk => Nat.lt_of_lt_of_le hk hB) hE)
  have hlc := h.lc
  have hl63 : b.l.length ≤ 9223372036854775807 := by unfold maxLen at hlc; omega
  have hok : ∀ l2, BtOk { b with l := l2 } := fun l2 => ⟨h.ok.base, h.ok.pid, h.ok.epoch, h.ok.seq, h.ok.kind, h.ok.time⟩
  have Hok := Lib.hid hok
  clear h hlc hok
  obtain ⟨h1, h2, h3, hE3, hs3⟩ := three_new w (.cells (btC b A c) 24) (.cells (btC btNone none 0) 24) (.cells #[.int .i64 b.base, .int .i64 b.pid, .int .i64 b.epoch, .int .i64 b.seq, .int .i64 b.kind, .int .i64 b.time, .slice none 0 0] 24)
  unfold btC btNone at h1 h2 h3 hE3 hs3
  unfold btC
  simp only [List.length_nil] at h1 h2 h3 hE3 hs3
  have Hall := Lib.hid (And.intro h1 (And.intro h2 (And.intro h3 (And.intro hE3 hs3))))
  clear h1 h2 h3 hE3 hs3
  go_enter Try.func18, Try.ntmps18
  go_upto_region 3 with fail
  generalize ((w.alloc _).alloc _).alloc _ = w3 at *
  obtain ⟨h1, h2, h3, hE3, hs3⟩ := Hall.out
  have q6 := (cell_of h1 6).trans rfl
  go_wp2_with fail
  go_loopw [11] (fun i wr => ∃ (lk : List Rc) (Al : Option Addr) (cl : Nat), (lk.length ≤ 80 ∧ lk.length ≤ b.l.length) ∧ i = .int .i64 (lk.length : Nat) ∧ Hid (∀ r ∈ lk, r.1.size ≤ 1100 ∧ r.2.1.size ≤ 1100) ∧ Own recK 54 wr (w.heap.size + 3) (fun _ => False) (.slice Al lk.length cl) lk ∧ Ext w wr ∧ w.heap.size + 3 ≤ wr.heap.size ∧ wr.heap[w.heap.size]? = some (.cells #[.int .i64 b.base, .int .i64 b.pid, .int .i64 b.epoch, .int .i64 b.seq, .int .i64 b.kind, .int .i64 b.time, .slice A b.l.length c] 24 (0, 0)) ∧ wr.heap[w.heap.size + 1]? = some (.cells #[.int .i64 0, .int .i64 0, .int .i64 0, .int .i64 0, .int .i64 0, .int .i64 0, .slice none 0 0] 24 (0, 0)) ∧ wr.heap[w.heap.size + 2]? = some (.cells #[.int .i64 b.base, .int .i64 b.pid, .int .i64 b.epoch, .int .i64 b.seq, .int .i64 b.kind, .int .i64 b.time, .slice Al lk.length cl] 24 (0, 0))) (fun i _ => b.l.length - (intOf i).toNat)
  case atStart => exact ⟨[], none, 0, ⟨Nat.zero_le _, Nat.zero_le _⟩, rfl, Lib.hid (fun r hr => by cases hr), Own.nil _ _ _ _ _, hE3, by omega, h1, h2, h3⟩
  case round =>
    obtain ⟨lk, Al, cl, hlk, rfl, Hlk, ho, hEr, hsr, h1r, h2r, h3r⟩ := hrel
    clear Hall h1 h2 h3 q6
    by_cases hlt : lk.length < b.l.length
    · obtain ⟨ad, rfl, hcc, hro⟩ := rec_at (Hrow.out wr hEr) lk.length hlt
      have hmeas := Lib.hid (@meas_up lk.length b.l.length hlt)
      generalize b.l[lk.length] = r at *
      obtain ⟨kk, vv, gg, tt⟩ := r
      obtain ⟨c0, c1, c2, c3⟩ := hcc
      obtain ⟨r1, r2, r3⟩ := hro
      simp only at c0 c1 c2 c3 r1 r2 r3
      have hlti : (lk.length : Int) < (b.l.length : Int) := by omega
      by_cases h80 : lk.length < 80
      · have h80i : (lk.length : Int) < 80 := by omega
        by_cases hk1 : 1100 < kk.size
        · have hk1i : (1100 : Int) < (kk.size : Int) := by omega
          by_cases hv1 : 1100 < vv.size
          · have hv1i : (1100 : Int) < (vv.size : Int) := by omega
            have hks : (kk.extract 0 1100).size ≤ 1100 := by rw [ByteArray.size_extract]; omega
            have hvs : (vv.extract 0 1100).size ≤ 1100 := by rw [ByteArray.size_extract]; omega
            obtain ⟨t1, t2, tE, ts⟩ := two_new wr (.cells #[.string (kk.extract 0 1100), .string (vv.extract 0 1100), .bool gg, .int .i64 tt] 54) (.cells #[.string (kk.extract 0 1100), .string (vv.extract 0 1100), .bool gg, .int .i64 tt] 54)
            obtain ⟨j1, j3, j4⟩ := one_new wr (.cells #[.string (kk.extract 0 1100), .string (vv.extract 0 1100), .bool gg, .int .i64 tt] 54)
            have Hbx := Lib.hid (boxedN t2)
            have Hln := Lib.hid (show (lk ++ [((kk.extract 0 1100), (vv.extract 0 1100), gg, tt)]).length = lk.length + 1 from by rw [List.length_append]; rfl)
            have Hkr := Lib.hid (fun W F => recK_mk W F (r := ((kk.extract 0 1100), (vv.extract 0 1100), gg, tt)) (Nat.le_trans hks (by simp [maxLen])) (Nat.le_trans hvs (by simp [maxLen])) r3)
            have h315 := (j3.block (w.heap.size + 2) (by omega)).trans h3r
            have h215 := (j3.block (w.heap.size + 1) (by omega)).trans h2r
            have h115 := (j3.block w.heap.size (by omega)).trans h1r
            have c6 := (cell_of h315 6).trans rfl
            have hE15 := Ext.trans _ _ _ hEr j3
            have Ho15 := Lib.hid (ho.below j3)
            have Hsm := Lib.hid (show ∀ r ∈ lk ++ [((kk.extract 0 1100), (vv.extract 0 1100), gg, tt)], r.1.size ≤ 1100 ∧ r.2.1.size ≤ 1100 from fun r hr => by
              rcases List.mem_append.1 hr with hr | hr
              · exact Hlk.out r hr
              · rw [List.mem_singleton.1 hr]; exact ⟨hks, hvs⟩)
            clear t1 t2 tE
            go_wp2_with (first
              | (at_builtin; go_must (refine app_onef recK flat_rec (w.heap.size + 3) rfl (.tmp 35) (.tmp 37) 22 54 48 rfl Try.underlying22 info_rec (.slice Al lk.length cl) lk ((kk.extract 0 1100), (vv.extract 0 1100), gg, tt) (wr.heap.size + 1) [.string (kk.extract 0 1100), .string (vv.extract 0 1100), .bool gg, .int .i64 tt] (fun _ => False) rfl rfl (Ho15.out.alloc _) Hbx.out (Hkr.out _ _) (by omega) (by simp only [maxLen]; omega) (by omega) ?_; intro v16 w16 ho16 hg16 ha16; obtain ⟨A6, c6b, e6, _, _⟩ := ho16.slice; subst e6; have hne16 : ∀ k, k < w.heap.size + 3 → (Value.slice Al lk.length cl).ownBlock ≠ some k := fun k hk e => (by have := (Ho15.out.at e).1; omega); have h316 := (grown_old hg16 (k := w.heap.size + 2) (by omega) (hne16 _ (by omega))).trans h315; have h216 := (grown_old hg16 (k := w.heap.size + 1) (by omega) (hne16 _ (by omega))).trans h215; have h116 := (grown_old hg16 (k := w.heap.size) (by omega) (hne16 _ (by omega))).trans h115; have hs16 := hg16.size; have hE16 : Ext w w16 := (Below.alloc hE15 hE15.size _).grown hg16 (by omega) (fun j hj => by have := (Ho15.out.at hj).1; omega); have Ho16 := Lib.hid ho16; clear ho16 hg16 ha16))
              | (refine gate_op (p := .store 22 (.tmp 39) (.tmp 38)) rfl ?_; go_must (refine put_cell rfl 22 (.tmp 39) (.tmp 38) rfl (w.heap.size + 2) 6 (.slice A6 (lk.length + 1) c6b) rfl rfl rfl _ _ h316 size_sl (show 6 < 7 by decide) ?_; intro w17 hp17)))
            have hs17 := hp17.size
            exact ⟨⟨lk ++ [((kk.extract 0 1100), (vv.extract 0 1100), gg, tt)], A6, c6b, by rw [Hln.out]; omega, by rw [Hln.out, Int.natCast_succ], Lib.hid Hsm.out, hp17.own Ho16.out (fun k hk => by have := (Ho16.out.at hk).1; omega) (fun _ h => h.elim), hp17.below hE16 (by omega), by omega, (hp17.block w.heap.size (by omega)).trans h116, (hp17.block (w.heap.size + 1) (by omega)).trans h216, by rw [Hln.out]; exact hp17.obj⟩, hmeas.out⟩
          · have hv1i : (vv.size : Int) ≤ 1100 := by omega
            have hks : (kk.extract 0 1100).size ≤ 1100 := by rw [ByteArray.size_extract]; omega
            have hvs : vv.size ≤ 1100 := by omega
            obtain ⟨t1, t2, tE, ts⟩ := two_new wr (.cells #[.string (kk.extract 0 1100), .string vv, .bool gg, .int .i64 tt] 54) (.cells #[.string (kk.extract 0 1100), .string vv, .bool gg, .int .i64 tt] 54)
            obtain ⟨j1, j3, j4⟩ := one_new wr (.cells #[.string (kk.extract 0 1100), .string vv, .bool gg, .int .i64 tt] 54)
            have Hbx := Lib.hid (boxedN t2)
            have Hln := Lib.hid (show (lk ++ [((kk.extract 0 1100), vv, gg, tt)]).length = lk.length + 1 from by rw [List.length_append]; rfl)
            have Hkr := Lib.hid (fun W F => recK_mk W F (r := ((kk.extract 0 1100), vv, gg, tt)) (Nat.le_trans hks (by simp [maxLen])) (Nat.le_trans hvs (by simp [maxLen])) r3)
            have h315 := (j3.block (w.heap.size + 2) (by omega)).trans h3r
            have h215 := (j3.block (w.heap.size + 1) (by omega)).trans h2r
            have h115 := (j3.block w.heap.size (by omega)).trans h1r
            have c6 := (cell_of h315 6).trans rfl
            have hE15 := Ext.trans _ _ _ hEr j3
            have Ho15 := Lib.hid (ho.below j3)
            have Hsm := Lib.hid (show ∀ r ∈ lk ++ [((kk.extract 0 1100), vv, gg, tt)], r.1.size ≤ 1100 ∧ r.2.1.size ≤ 1100 from fun r hr => by
              rcases List.mem_append.1 hr with hr | hr
              · exact Hlk.out r hr
              · rw [List.mem_singleton.1 hr]; exact ⟨hks, hvs⟩)
            clear t1 t2 tE
            go_wp2_with (first
              | (at_builtin; go_must (refine app_onef recK flat_rec (w.heap.size + 3) rfl (.tmp 35) (.tmp 37) 22 54 48 rfl Try.underlying22 info_rec (.slice Al lk.length cl) lk ((kk.extract 0 1100), vv, gg, tt) (wr.heap.size + 1) [.string (kk.extract 0 1100), .string vv, .bool gg, .int .i64 tt] (fun _ => False) rfl rfl (Ho15.out.alloc _) Hbx.out (Hkr.out _ _) (by omega) (by simp only [maxLen]; omega) (by omega) ?_; intro v16 w16 ho16 hg16 ha16; obtain ⟨A6, c6b, e6, _, _⟩ := ho16.slice; subst e6; have hne16 : ∀ k, k < w.heap.size + 3 → (Value.slice Al lk.length cl).ownBlock ≠ some k := fun k hk e => (by have := (Ho15.out.at e).1; omega); have h316 := (grown_old hg16 (k := w.heap.size + 2) (by omega) (hne16 _ (by omega))).trans h315; have h216 := (grown_old hg16 (k := w.heap.size + 1) (by omega) (hne16 _ (by omega))).trans h215; have h116 := (grown_old hg16 (k := w.heap.size) (by omega) (hne16 _ (by omega))).trans h115; have hs16 := hg16.size; have hE16 : Ext w w16 := (Below.alloc hE15 hE15.size _).grown hg16 (by omega) (fun j hj => by have := (Ho15.out.at hj).1; omega); have Ho16 := Lib.hid ho16; clear ho16 hg16 ha16))
              | (refine gate_op (p := .store 22 (.tmp 39) (.tmp 38)) rfl ?_; go_must (refine put_cell rfl 22 (.tmp 39) (.tmp 38) rfl (w.heap.size + 2) 6 (.slice A6 (lk.length + 1) c6b) rfl rfl rfl _ _ h316 size_sl (show 6 < 7 by decide) ?_; intro w17 hp17)))
            have hs17 := hp17.size
            exact ⟨⟨lk ++ [((kk.extract 0 1100), vv, gg, tt)], A6, c6b, by rw [Hln.out]; omega, by rw [Hln.out, Int.natCast_succ], Lib.hid Hsm.out, hp17.own Ho16.out (fun k hk => by have := (Ho16.out.at hk).1; omega) (fun _ h => h.elim), hp17.below hE16 (by omega), by omega, (hp17.block w.heap.size (by omega)).trans h116, (hp17.block (w.heap.size + 1) (by omega)).trans h216, by rw [Hln.out]; exact hp17.obj⟩, hmeas.out⟩
        · have hk1i : (kk.size : Int) ≤ 1100 := by omega
          by_cases hv1 : 1100 < vv.size
          · have hv1i : (1100 : Int) < (vv.size : Int) := by omega
            have hks : kk.size ≤ 1100 := by omega
            have hvs : (vv.extract 0 1100).size ≤ 1100 := by rw [ByteArray.size_extract]; omega
            obtain ⟨t1, t2, tE, ts⟩ := two_new wr (.cells #[.string kk, .string (vv.extract 0 1100), .bool gg, .int .i64 tt] 54) (.cells #[.string kk, .string (vv.extract 0 1100), .bool gg, .int .i64 tt] 54)
            obtain ⟨j1, j3, j4⟩ := one_new wr (.cells #[.string kk, .string (vv.extract 0 1100), .bool gg, .int .i64 tt] 54)
            have Hbx := Lib.hid (boxedN t2)
            have Hln := Lib.hid (show (lk ++ [(kk, (vv.extract 0 1100), gg, tt)]).length = lk.length + 1 from by rw [List.length_append]; rfl)
            have Hkr := Lib.hid (fun W F => recK_mk W F (r := (kk, (vv.extract 0 1100), gg, tt)) (Nat.le_trans hks (by simp [maxLen])) (Nat.le_trans hvs (by simp [maxLen])) r3)
            have h315 := (j3.block (w.heap.size + 2) (by omega)).trans h3r
            have h215 := (j3.block (w.heap.size + 1) (by omega)).trans h2r
            have h115 := (j3.block w.heap.size (by omega)).trans h1r
            have c6 := (cell_of h315 6).trans rfl
            have hE15 := Ext.trans _ _ _ hEr j3
            have Ho15 := Lib.hid (ho.below j3)
            have Hsm := Lib.hid (show ∀ r ∈ lk ++ [(kk, (vv.extract 0 1100), gg, tt)], r.1.size ≤ 1100 ∧ r.2.1.size ≤ 1100 from fun r hr => by
              rcases List.mem_append.1 hr with hr | hr
              · exact Hlk.out r hr
              · rw [List.mem_singleton.1 hr]; exact ⟨hks, hvs⟩)
            clear t1 t2 tE
            go_wp2_with (first
              | (at_builtin; go_must (refine app_onef recK flat_rec (w.heap.size + 3) rfl (.tmp 35) (.tmp 37) 22 54 48 rfl Try.underlying22 info_rec (.slice Al lk.length cl) lk (kk, (vv.extract 0 1100), gg, tt) (wr.heap.size + 1) [.string kk, .string (vv.extract 0 1100), .bool gg, .int .i64 tt] (fun _ => False) rfl rfl (Ho15.out.alloc _) Hbx.out (Hkr.out _ _) (by omega) (by simp only [maxLen]; omega) (by omega) ?_; intro v16 w16 ho16 hg16 ha16; obtain ⟨A6, c6b, e6, _, _⟩ := ho16.slice; subst e6; have hne16 : ∀ k, k < w.heap.size + 3 → (Value.slice Al lk.length cl).ownBlock ≠ some k := fun k hk e => (by have := (Ho15.out.at e).1; omega); have h316 := (grown_old hg16 (k := w.heap.size + 2) (by omega) (hne16 _ (by omega))).trans h315; have h216 := (grown_old hg16 (k := w.heap.size + 1) (by omega) (hne16 _ (by omega))).trans h215; have h116 := (grown_old hg16 (k := w.heap.size) (by omega) (hne16 _ (by omega))).trans h115; have hs16 := hg16.size; have hE16 : Ext w w16 := (Below.alloc hE15 hE15.size _).grown hg16 (by omega) (fun j hj => by have := (Ho15.out.at hj).1; omega); have Ho16 := Lib.hid ho16; clear ho16 hg16 ha16))
              | (refine gate_op (p := .store 22 (.tmp 39) (.tmp 38)) rfl ?_; go_must (refine put_cell rfl 22 (.tmp 39) (.tmp 38) rfl (w.heap.size + 2) 6 (.slice A6 (lk.length + 1) c6b) rfl rfl rfl _ _ h316 size_sl (show 6 < 7 by decide) ?_; intro w17 hp17)))
            have hs17 := hp17.size
            exact ⟨⟨lk ++ [(kk, (vv.extract 0 1100), gg, tt)], A6, c6b, by rw [Hln.out]; omega, by rw [Hln.out, Int.natCast_succ], Lib.hid Hsm.out, hp17.own Ho16.out (fun k hk => by have := (Ho16.out.at hk).1; omega) (fun _ h => h.elim), hp17.below hE16 (by omega), by omega, (hp17.block w.heap.size (by omega)).trans h116, (hp17.block (w.heap.size + 1) (by omega)).trans h216, by rw [Hln.out]; exact hp17.obj⟩, hmeas.out⟩
          · have hv1i : (vv.size : Int) ≤ 1100 := by omega
            have hks : kk.size ≤ 1100 := by omega
            have hvs : vv.size ≤ 1100 := by omega
            obtain ⟨t1, t2, tE, ts⟩ := two_new wr (.cells #[.string kk, .string vv, .bool gg, .int .i64 tt] 54) (.cells #[.string kk, .string vv, .bool gg, .int .i64 tt] 54)
            obtain ⟨j1, j3, j4⟩ := one_new wr (.cells #[.string kk, .string vv, .bool gg, .int .i64 tt] 54)
            have Hbx := Lib.hid (boxedN t2)
            have Hln := Lib.hid (show (lk ++ [(kk, vv, gg, tt)]).length = lk.length + 1 from by rw [List.length_append]; rfl)
            have Hkr := Lib.hid (fun W F => recK_mk W F (r := (kk, vv, gg, tt)) (Nat.le_trans hks (by simp [maxLen])) (Nat.le_trans hvs (by simp [maxLen])) r3)
            have h315 := (j3.block (w.heap.size + 2) (by omega)).trans h3r
            have h215 := (j3.block (w.heap.size + 1) (by omega)).trans h2r
            have h115 := (j3.block w.heap.size (by omega)).trans h1r
            have c6 := (cell_of h315 6).trans rfl
            have hE15 := Ext.trans _ _ _ hEr j3
            have Ho15 := Lib.hid (ho.below j3)
            have Hsm := Lib.hid (show ∀ r ∈ lk ++ [(kk, vv, gg, tt)], r.1.size ≤ 1100 ∧ r.2.1.size ≤ 1100 from fun r hr => by
              rcases List.mem_append.1 hr with hr | hr
              · exact Hlk.out r hr
              · rw [List.mem_singleton.1 hr]; exact ⟨hks, hvs⟩)
            clear t1 t2 tE
            go_wp2_with (first
              | (at_builtin; go_must (refine app_onef recK flat_rec (w.heap.size + 3) rfl (.tmp 35) (.tmp 37) 22 54 48 rfl Try.underlying22 info_rec (.slice Al lk.length cl) lk (kk, vv, gg, tt) (wr.heap.size + 1) [.string kk, .string vv, .bool gg, .int .i64 tt] (fun _ => False) rfl rfl (Ho15.out.alloc _) Hbx.out (Hkr.out _ _) (by omega) (by simp only [maxLen]; omega) (by omega) ?_; intro v16 w16 ho16 hg16 ha16; obtain ⟨A6, c6b, e6, _, _⟩ := ho16.slice; subst e6; have hne16 : ∀ k, k < w.heap.size + 3 → (Value.slice Al lk.length cl).ownBlock ≠ some k := fun k hk e => (by have := (Ho15.out.at e).1; omega); have h316 := (grown_old hg16 (k := w.heap.size + 2) (by omega) (hne16 _ (by omega))).trans h315; have h216 := (grown_old hg16 (k := w.heap.size + 1) (by omega) (hne16 _ (by omega))).trans h215; have h116 := (grown_old hg16 (k := w.heap.size) (by omega) (hne16 _ (by omega))).trans h115; have hs16 := hg16.size; have hE16 : Ext w w16 := (Below.alloc hE15 hE15.size _).grown hg16 (by omega) (fun j hj => by have := (Ho15.out.at hj).1; omega); have Ho16 := Lib.hid ho16; clear ho16 hg16 ha16))
              | (refine gate_op (p := .store 22 (.tmp 39) (.tmp 38)) rfl ?_; go_must (refine put_cell rfl 22 (.tmp 39) (.tmp 38) rfl (w.heap.size + 2) 6 (.slice A6 (lk.length + 1) c6b) rfl rfl rfl _ _ h316 size_sl (show 6 < 7 by decide) ?_; intro w17 hp17)))
            have hs17 := hp17.size
            exact ⟨⟨lk ++ [(kk, vv, gg, tt)], A6, c6b, by rw [Hln.out]; omega, by rw [Hln.out, Int.natCast_succ], Lib.hid Hsm.out, hp17.own Ho16.out (fun k hk => by have := (Ho16.out.at hk).1; omega) (fun _ h => h.elim), hp17.below hE16 (by omega), by omega, (hp17.block w.heap.size (by omega)).trans h116, (hp17.block (w.heap.size + 1) (by omega)).trans h216, by rw [Hln.out]; exact hp17.obj⟩, hmeas.out⟩
      · have h80i : ¬ (lk.length : Int) < 80 := by omega
        have hE4 := Ext.alloc wr (.cells #[.string kk, .string vv, .bool gg, .int .i64 tt] 54)
        have h1r := (hE4.block w.heap.size (by omega)).trans h1r
        have h2r := (hE4.block (w.heap.size + 1) (by omega)).trans h2r
        have h3r := (hE4.block (w.heap.size + 2) (by omega)).trans h3r
        have ho := ho.below hE4
        have hEr := Ext.trans _ _ _ hEr hE4
        have h2' := h2r
        have hat := fun k (hk : (Value.slice Al lk.length cl).ownBlock = some k) => (ho.at hk).1
        clear h2r
        go_wp2_with (first
          | (refine gate_op (p := .load 24 (.tmp 3)) rfl ?_; go_must (refine wpList_load_row rfl 24 (.tmp 3) rfl (w.heap.size + 2) rfl _ (btC { b with l := lk } Al cl) (0, 0) _ h3r Try.underlying24 rfl size_bt ?_))
          | (refine gate_op (p := .store 24 (.tmp 2) (.tmp 41)) rfl ?_; go_must (refine put_row rfl 24 (.tmp 2) (.tmp 41) rfl (w.heap.size + 1) (btC { b with l := lk } Al cl) rfl rfl _ _ h2' size_bt rfl (btC_one _ _ _) ?_; intro wf hpf)))
        refine bodyPost_ret (results_cell_row rfl _ _ (w.heap.size + 1) _ _ _ _ rfl hpf.obj Try.underlying24 rfl size_bt) rfl ?_
        exact ⟨{ b with l := lk }, ⟨Hok.out lk, by simp only; omega, Hlk.out⟩, Al, cl, rfl, (hpf.own ho (fun k hk => by have := hat k hk; omega) (fun _ h => h.elim)).lower (by omega), hpf.below hEr (by omega)⟩
    · have hge : ¬ (lk.length : Int) < (b.l.length : Int) := by omega
      have h2' := h2r
      have hat := fun k (hk : (Value.slice Al lk.length cl).ownBlock = some k) => (ho.at hk).1
      clear h2r
      go_wp2_with (first
        | (refine gate_op (p := .load 24 (.tmp 3)) rfl ?_; go_must (refine wpList_load_row rfl 24 (.tmp 3) rfl (w.heap.size + 2) rfl _ (btC { b with l := lk } Al cl) (0, 0) _ h3r Try.underlying24 rfl size_bt ?_))
        | (refine gate_op (p := .store 24 (.tmp 2) (.tmp 41)) rfl ?_; go_must (refine put_row rfl 24 (.tmp 2) (.tmp 41) rfl (w.heap.size + 1) (btC { b with l := lk } Al cl) rfl rfl _ _ h2' size_bt rfl (btC_one _ _ _) ?_; intro wf hpf)))
      refine bodyPost_ret (results_cell_row rfl _ _ (w.heap.size + 1) _ _ _ _ rfl hpf.obj Try.underlying24 rfl size_bt) rfl ?_
      exact ⟨{ b with l := lk }, ⟨Hok.out lk, by simp only; omega, Hlk.out⟩, Al, cl, rfl, (hpf.own ho (fun k hk => by have := hat k hk; omega) (fun _ h => h.elim)).lower (by omega), hpf.below hEr (by omega)⟩
end Go.Proofs.Ytaomhedjamnloaa
