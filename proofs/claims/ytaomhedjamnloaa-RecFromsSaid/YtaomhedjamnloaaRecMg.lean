/- Contracts: rec's goes, Merge; lists of batches. -/
import Derived.Test.YtaomhedjamnloaaRecMP
import Derived.Test.YtaomhedjamnloaaRecC
set_option linter.unusedVariables false
set_option linter.unusedSimpArgs false
namespace Go.Proofs.Ytaomhedjamnloaa
open Go Go.RowKit

/-- A batch inside a list. -/
def btM : Kd BtM where
  sz := 7
  K := fun w F b cs => ∃ A c, cs = (btC b A c).toList ∧ BtOk b ∧ (b.l.length ≤ c ∧ c ≤ maxLen) ∧ Row recK w F A b.l
  pos := by decide
  len := by rintro w F b cs ⟨A, c, rfl, _⟩; rfl
  one := by
    rintro w F b cs ⟨A, c, rfl, _⟩ u hu
    have := btC_one b A c
    rw [Array.all_eq_true'] at this
    exact this u (by simpa using hu)
  mono := by rintro w F G b cs ⟨A, c, e, h1, h2, h3⟩ hF; exact ⟨A, c, e, h1, h2, h3.mono hF⟩
  bound := by rintro w F b cs ⟨A, c, e, h1, h2, h3⟩; exact ⟨A, c, e, h1, h2, h3.bound⟩
  move := by rintro w w' F b cs ⟨A, c, e, h1, h2, h3⟩ hm; exact ⟨A, c, e, h1, h2, h3.move hm⟩
structure BtCells (w : World) (a : Addr) (b : BtM) (A : Option Addr) (c : Nat) : Prop where
  c0 : w.cell? a = some (.int .i64 b.base)
  c1 : w.cell? ⟨a.block, a.off + 1, none⟩ = some (.int .i64 b.pid)
  c2 : w.cell? ⟨a.block, a.off + 2, none⟩ = some (.int .i64 b.epoch)
  c3 : w.cell? ⟨a.block, a.off + 3, none⟩ = some (.int .i64 b.seq)
  c4 : w.cell? ⟨a.block, a.off + 4, none⟩ = some (.int .i64 b.kind)
  c5 : w.cell? ⟨a.block, a.off + 5, none⟩ = some (.int .i64 b.time)
  c6 : w.cell? ⟨a.block, a.off + 6, none⟩ = some (.slice A b.l.length c)
theorem BtCells.ext {w w' : World} {a : Addr} {b : BtM} {A : Option Addr} {c : Nat} (h : BtCells w a b A c) (hE : Ext w w') : BtCells w' a b A c := by
  have hl : a.block < w.heap.size := World.block_lt_of_cell? w _ h.c0
  have g : ∀ p : Addr, p.block = a.block → w'.cell? p = w.cell? p := fun p hp => World.cell?_of_block (by rw [hp]; exact hE.block _ hl)
  exact ⟨(g a rfl).trans h.c0, (g ⟨a.block, a.off + 1, none⟩ rfl).trans h.c1, (g ⟨a.block, a.off + 2, none⟩ rfl).trans h.c2, (g ⟨a.block, a.off + 3, none⟩ rfl).trans h.c3, (g ⟨a.block, a.off + 4, none⟩ rfl).trans h.c4, (g ⟨a.block, a.off + 5, none⟩ rfl).trans h.c5, (g ⟨a.block, a.off + 6, none⟩ rfl).trans h.c6⟩
theorem bt_at {w : World} {F : Nat → Prop} {A : Option Addr} {xs : List BtM} (h : Row btM w F A xs) (k : Nat) (hk : k < xs.length) : ∃ ad A' c', A = some ad ∧ F ad.block ∧ BtCells w (ad.add (k * 7)) xs[k] A' c' ∧ BtOk xs[k] ∧ (xs[k].l.length ≤ c' ∧ c' ≤ maxLen) ∧ Row recK w F A' xs[k].l := by
  obtain ⟨ad, cs, e, hf, hl, ⟨A', c', rfl, h1, h2, h3⟩, hc⟩ := h.get k hk
  have hja : ∀ j, 0 < j → ad.add (k * 7 + j) = ⟨(ad.add (k * 7)).block, (ad.add (k * 7)).off + j, Option.none⟩ := fun j hj => by
    rw [← Addr.add_add]
    unfold Addr.add
    split
    · omega
    · rfl
  have g1 := hc 1 _ rfl
  have g2 := hc 2 _ rfl
  have g3 := hc 3 _ rfl
  have g4 := hc 4 _ rfl
  have g5 := hc 5 _ rfl
  have g6 := hc 6 _ rfl
  rw [show btM.sz = 7 from rfl, hja _ (by decide)] at g1 g2 g3 g4 g5 g6
  exact ⟨ad, A', c', e, hf, ⟨hc 0 _ rfl, g1, g2, g3, g4, g5, g6⟩, h1, h2, h3⟩
theorem bt_at0 {w : World} {F : Nat → Prop} {A : Option Addr} {xs : List BtM} (h : Row btM w F A xs) (hk : 0 < xs.length) : ∃ ad A' c', A = some ad ∧ F ad.block ∧ BtCells w ad xs[0] A' c' ∧ BtOk xs[0] ∧ (xs[0].l.length ≤ c' ∧ c' ≤ maxLen) ∧ Row recK w F A' xs[0].l := by
  obtain ⟨ad, A', c', e, hf, hcl, h1, h2, h3⟩ := bt_at h 0 hk
  rw [Nat.zero_mul] at hcl
  exact ⟨ad, A', c', e, hf, hcl, h1, h2, h3⟩
set_option maxRecDepth 8000 in
set_option maxHeartbeats 2000000 in
theorem goes_calls (w : World) (a b : BtM) (A A' : Option Addr) (c c' : Nat) (hl : a.l.length ≤ 1000000) (h1 : 0 ≤ a.base ∧ a.base ≤ 1099511627776) (h2 : 0 ≤ a.seq ∧ a.seq ≤ 2147483647) :
    Calls Try.prog 73 #[.agg (btC a A c), .agg (btC b A' c')] w fun e w' => e = .returned (.bool (goesB a b)) ∧ Ext w w' := by
  obtain ⟨hp1, hp2, hE2, hs2⟩ := two_new w (.cells (btC a A c) 24) (.cells (btC b A' c') 24)
  have Hmk := Lib.hid (fun W => mark_calls W b A' c')
  generalize hx : goesB a b = x
  unfold goesB at hx
  unfold btC at hp1 hp2 hE2 hs2 Hmk
  unfold btC
  generalize markB b = mk at *
  generalize a.l.length = n at *
  have Hx := Lib.hid hx
  clear hx
  go_enter Try.func73, Try.ntmps73
  go_upto_region 1 with fail
  generalize (w.alloc _).alloc _ = w2 at *
  have k0 := (cell_of hp1 0).trans rfl
  have k1 := (cell_of hp1 1).trans rfl
  have k2 := (cell_of hp1 2).trans rfl
  have k3 := (cell_of hp1 3).trans rfl
  have k4 := (cell_of hp1 4).trans rfl
  have k5 := (cell_of hp1 5).trans rfl
  have k6 := (cell_of hp1 6).trans rfl
  have q0 := (cell_of hp2 0).trans rfl
  have q1 := (cell_of hp2 1).trans rfl
  have q2 := (cell_of hp2 2).trans rfl
  have q3 := (cell_of hp2 3).trans rfl
  have q4 := (cell_of hp2 4).trans rfl
  have q5 := (cell_of hp2 5).trans rfl
  have q6 := (cell_of hp2 6).trans rfl
  have HP := Lib.hid (And.intro hp1 hp2)
  clear hp1 hp2
  go_wp2_with fail
  refine (Hmk.out _).mono ?_
  rintro e w3 ⟨rfl, hE3⟩
  have HE := Lib.hid (Ext.trans _ _ _ hE2 hE3)
  have hp1 := (hE3.block w.heap.size (by omega)).trans HP.out.1
  have hp2 := (hE3.block (w.heap.size + 1) (by omega)).trans HP.out.2
  clear k0 k1 k2 k3 k4 k5 k6 q0 q1 q2 q3 q4 q5 q6 hE2 hE3 HP Hmk
  have k0 := (cell_of hp1 0).trans rfl
  have k1 := (cell_of hp1 1).trans rfl
  have k2 := (cell_of hp1 2).trans rfl
  have k3 := (cell_of hp1 3).trans rfl
  have k4 := (cell_of hp1 4).trans rfl
  have k5 := (cell_of hp1 5).trans rfl
  have k6 := (cell_of hp1 6).trans rfl
  have q0 := (cell_of hp2 0).trans rfl
  have q1 := (cell_of hp2 1).trans rfl
  have q2 := (cell_of hp2 2).trans rfl
  have q3 := (cell_of hp2 3).trans rfl
  have q4 := (cell_of hp2 4).trans rfl
  have q5 := (cell_of hp2 5).trans rfl
  have q6 := (cell_of hp2 6).trans rfl
  clear hp1 hp2
  cases mk with
  | true =>
    go_wp2
    all_goals go_ret
    all_goals exact ⟨ret_bool (by rw [← Hx.out]; rfl), HE.out⟩
  | false =>
    go_wp2
    all_goals go_ret
    all_goals exact ⟨ret_bool (by rw [← Hx.out, Bool.eq_iff_iff]; simp_all <;> omega), HE.out⟩
end Go.Proofs.Ytaomhedjamnloaa
