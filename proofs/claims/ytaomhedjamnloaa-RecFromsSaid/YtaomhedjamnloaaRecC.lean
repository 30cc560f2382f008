/- Contracts of rec: Copy, part, Mark, Next, goes, Same. -/
import Derived.Test.YtaomhedjamnloaaRecB
import Derived.Test.YtaomhedjamnloaaPut
set_option linter.unusedVariables false
set_option linter.unusedSimpArgs false
namespace Go.Proofs.Ytaomhedjamnloaa
open Go Go.RowKit

theorem flat_rec : Flat recK := flat_pair (flat_sc _ _ _) (flat_pair (flat_sc _ _ _) (flat_pair (flat_sc _ _ _) (flat_sc _ _ _)))
theorem info_rec : (Try.prog.info? 54).map (fun i => (i.zero.map (fun z => z.cells.size), i.size, i.bytes)) = some (some recK.sz, recK.sz, 48) := by kernel_rfl
theorem size_bt : (Try.prog.info? 24).map (·.size) = some 7 := by kernel_rfl
theorem size_sl : (Try.prog.info? 22).map (·.size) = some 1 := by kernel_rfl
theorem size_int : (Try.prog.info? 3).map (·.size) = some 1 := by kernel_rfl
theorem size_i64 : (Try.prog.info? 2).map (·.size) = some 1 := by kernel_rfl
theorem btC_one (b : BtM) (A : Option Addr) (c : Nat) : (btC b A c).all (·.oneCell') = true := by simp [btC, Value.oneCell']
/-- A batch of the call's own. -/
def BtOwn (w : World) (b : BtM) (e : Ending) (w' : World) : Prop := ∃ A c, e = .returned (.agg (btC b A c)) ∧ Own recK 54 w' w.heap.size (fun _ => False) (.slice A b.l.length c) b.l ∧ Ext w w'
theorem btAt_own {w' : World} {B : Nat} {b : BtM} {A : Option Addr} {c : Nat} (hk : BtOk b) (ho : Own recK 54 w' B (fun _ => False) (.slice A b.l.length c) b.l) : BtAt w' w'.heap.size b A c := by
  have hat := fun k (h : (Value.slice A b.l.length c).ownBlock = some k) => (ho.at h).2
  obtain ⟨A2, c2, e2, h1, h2, hr⟩ := ho.sl
  injection e2 with e3 e4 e5
  subst e3; subst e5
  exact ⟨hk, ⟨h1, h2⟩, hr.mono fun k hk => hat k (hk.resolve_left id)⟩
set_option maxRecDepth 8000 in
set_option maxHeartbeats 800000 in
theorem Copy_calls (w : World) (B : Nat) (hB : B ≤ w.heap.size) (b : BtM) (A : Option Addr) (c : Nat) (h : BtAt w B b A c) (hl : b.l.length ≤ 1000000) :
    Calls Try.prog 34 #[.agg (btC b A c)] w (BtOwn w b) := by
  have hrow := h.row.mono (G := fun k => k < w.heap.size) fun _ hk => Nat.lt_of_lt_of_le hk hB
  have hlc := h.lc
  obtain ⟨hp1, hp2, hE2, hs2⟩ := two_new w (.cells (btC b A c) 24) (.cells (btC btNone none 0) 24)
  have Hp := Lib.hid (And.intro hp1 (And.intro hp2 (And.intro hE2 hs2)))
  clear hp1 hp2 hE2 hs2
  unfold btC at Hp
  unfold btC
  simp only [btNone, List.length_nil] at Hp
  go_enter Try.func34, Try.ntmps34
  go_upto_region 1 with fail
  generalize (w.alloc _).alloc _ = w2 at Hp ⊢
  have hs2 := Hp.out.2.2.2
  have hE2 := Hp.out.2.2.1
  have k6 : w2.cell? ⟨w.heap.size, 6, none⟩ = some (.slice A b.l.length c) := (cell_of Hp.out.1 6).trans rfl
  have hsl : Sl recK w2 (fun k => k < w.heap.size) (.slice A b.l.length c) b.l := ⟨A, c, rfl, hlc.1, hlc.2, hrow.belowF (fun _ h => h) hE2⟩
  go_wp2_with (first
    | (at_builtin; go_must (refine app_flat recK flat_rec (w.heap.size + 2) rfl (.const (.slice none 0 0)) (.tmp 4) 22 54 48 rfl Try.underlying22 info_rec (.slice none 0 0) (.slice A b.l.length c) [] b.l (fun _ => False) _ rfl rfl (Own.nil _ _ _ _ _) hsl (by simp only [List.length_nil]; omega) (by simp only [maxLen, List.length_nil]; omega) (by omega) ?_; intro v4 w4 ho4 hg4 ha4; rw [List.nil_append] at ho4; obtain ⟨A4, c4, e4, _, _⟩ := ho4.slice; subst e4; have hE4 : Below w2.heap.size w2 w4 := (Below.refl _ _).grown hg4 (Nat.le_refl _) (fun k e => by cases e); have hb4 := (hE4.block w.heap.size (by omega)).trans Hp.out.1; have hc4 := (hE4.block (w.heap.size + 1) (by omega)).trans Hp.out.2.1))
    | (refine gate_op (p := .store 22 (.tmp 6) (.tmp 5)) rfl ?_; go_must (refine put_cell rfl 22 (.tmp 6) (.tmp 5) rfl w.heap.size 6 (.slice A4 b.l.length c4) rfl rfl rfl _ _ hb4 size_sl (show 6 < 7 by decide) ?_; intro w5 hp5))
    | (refine gate_op (p := .load 24 (.tmp 1)) rfl ?_; go_must (refine wpList_load_row rfl 24 (.tmp 1) rfl w.heap.size rfl _ (btC b A4 c4) (0, 0) _ hp5.obj Try.underlying24 rfl size_bt ?_))
    | (refine gate_op (p := .store 24 (.tmp 2) (.tmp 7)) rfl ?_; go_must (refine put_row rfl 24 (.tmp 2) (.tmp 7) rfl (w.heap.size + 1) (btC b A4 c4) rfl rfl _ _ ((hp5.block _ (by omega)).trans hc4) size_bt rfl (btC_one _ _ _) ?_; intro w6 hp6)))
  refine bodyPost_ret (results_cell_row rfl _ _ (w.heap.size + 1) _ _ _ _ rfl hp6.obj Try.underlying24 rfl size_bt) rfl ?_
  have hat := fun k (hk : (Value.slice A4 b.l.length c4).ownBlock = some k) => (ho4.at hk).1
  have ho5 := hp5.own ho4 (fun k hk => by have := hat k hk; omega) (fun _ h => h.elim)
  have ho6 := hp6.own ho5 (fun k hk => by have := hat k hk; omega) (fun _ h => h.elim)
  exact ⟨A4, c4, rfl, ho6.lower (by omega), hp6.below (hp5.below (Below.trans hE2 (Below.mono hE4 (by omega))) (by omega)) (by omega)⟩
end Go.Proofs.Ytaomhedjamnloaa
