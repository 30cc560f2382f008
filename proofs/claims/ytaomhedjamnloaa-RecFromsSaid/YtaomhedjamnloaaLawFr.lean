/- RecFroms: the walk of the law. -/
import Derived.Test.YtaomhedjamnloaaRecK
import Derived.Test.YtaomhedjamnloaaRecFl2
import Derived.Test.YtaomhedjamnloaaRecFr3
import Derived.Test.YtaomhedjamnloaaRecCut
set_option linter.unusedVariables false
set_option linter.unusedSimpArgs false
namespace Go.Proofs.Ytaomhedjamnloaa
open Go Go.RowKit

structure AtCells (w : World) (a : Addr) (x : AtT) : Prop where
  c0 : w.cell? a = some (.int .i64 x.1)
  c1 : w.cell? ⟨a.block, a.off + 1, none⟩ = some (.string x.2.1)
  c2 : w.cell? ⟨a.block, a.off + 2, none⟩ = some (.string x.2.2.1)
  c3 : w.cell? ⟨a.block, a.off + 3, none⟩ = some (.bool x.2.2.2.1)
  c4 : w.cell? ⟨a.block, a.off + 4, none⟩ = some (.int .i64 x.2.2.2.2)
theorem at_at {w : World} {F : Nat → Prop} {A : Option Addr} {xs : List AtT} (h : Row atK w F A xs) (k : Nat) (hk : k < xs.length) : ∃ ad, A = some ad ∧ AtCells w (ad.add (k * 5)) xs[k] := by
  obtain ⟨ad, c, e, hf, hl, ⟨c0, c1, rfl, k0, k1⟩, hc⟩ := h.get k hk
  obtain ⟨rfl, ho⟩ := rec_of k1
  obtain ⟨e0, w0⟩ := k0
  subst e0
  have hja : ∀ j, 0 < j → ad.add (k * 5 + j) = ⟨(ad.add (k * 5)).block, (ad.add (k * 5)).off + j, Option.none⟩ := fun j hj => by
    rw [← Addr.add_add]
    unfold Addr.add
    split
    · omega
    · rfl
  have h1 := hc 1 _ rfl
  have h2 := hc 2 _ rfl
  have h3 := hc 3 _ rfl
  have h4 := hc 4 _ rfl
  rw [show atK.sz = 5 from rfl, hja _ (by decide)] at h1 h2 h3 h4
  exact ⟨ad, e, ⟨hc 0 _ rfl, h1, h2, h3, h4⟩⟩
theorem row_one {α : Type} {d : Kd α} {w : World} {F : Nat → Prop} {g : Nat} {us : Array Value} {e : TypeId} {x : α} (h : w.heap[g]? = some (.cells us e (0, 0))) (hF : F g) (hK : d.K w F x us.toList) : Row d w F (some ⟨g, 0, none⟩) [x] :=
  ⟨us.toList, .inr ⟨_, rfl, hF, boxedN h⟩, Reps.single (d.len hK) hK⟩
theorem fromB_fine (b : BtM) (at_ : Int) (hl : b.l.length ≤ 1000) : (fromB b at_).1.l.length ≤ 1000 ∧ 0 ≤ (fromB b at_).1.base ∧ (fromB b at_).1.base ≤ 2199023255552 := by
  unfold fromB
  split
  · exact ⟨by simp [btNone], by simp [btNone], by simp [btNone]⟩
  · rename_i h1
    have hv : validE b = 0 := Classical.not_not.1 fun h => h1 (.inl h)
    have hf := (validE_iff b).1 hv
    have hb := hf.nums.base
    have hn : at_ < b.base + (spanN b : Nat) := by
      have h2 : ¬ nextB b ≤ at_ := fun h => h1 (.inr h)
      unfold nextB at h2
      rw [if_pos hv] at h2
      omega
    have hll := hf.len
    have hs : spanN b ≤ 64 := by
      unfold spanN
      split <;> omega
    split
    · exact ⟨hl, hb.1, by show b.base ≤ _; omega⟩
    · refine ⟨?_, ?_, ?_⟩
      · show ((b.l.take b.l.length).drop _).length ≤ 1000
        rw [List.length_drop, List.length_take]
        omega
      · show 0 ≤ b.base + (((at_ - b.base).toNat : Nat) : Int)
        omega
      · show b.base + (((at_ - b.base).toNat : Nat) : Int) ≤ _
        omega
theorem numFrom_ge : ∀ (l : List Rc) (k : Int), ∀ p ∈ numFrom k l, k ≤ p.1
  | [], k, p, h => by cases h
  | x :: l, k, p, h => by
    rw [numFrom] at h
    rcases List.mem_cons.1 h with rfl | h
    · exact Int.le_refl _
    · have := numFrom_ge l (k + 1) p h
      omega
theorem fromB_ge {b : BtM} (hv : validE b = 0) (at_ : Int) : ∀ p ∈ flat1 (fromB b at_).1, at_ ≤ p.1 := by
  intro p hp
  unfold flat1 at hp
  split at hp
  · cases hp
  · rename_i hm
    have hg := numFrom_ge _ _ p hp
    unfold fromB at hg hm hp
    split at hg
    · rename_i h1
      rw [if_pos h1] at hp
      simp [btNone, numFrom] at hp
    · rename_i h1
      rw [if_neg h1] at hm
      split at hg
      · rename_i h2
        rw [if_pos h2] at hm
        rcases h2 with h2 | h2
        · exact absurd h2 hm
        · exact Int.le_trans h2 hg
      · have hg2 : b.base + (((at_ - b.base).toNat : Nat) : Int) ≤ p.1 := hg
        omega
theorem flatL_one (b : BtM) : flatL [b] = flat1 b := by simp [flatL]
theorem flat1_len (b : BtM) : (flat1 b).length ≤ b.l.length := by
  unfold flat1
  split
  · exact Nat.zero_le _
  · rw [numFrom_len]; exact Nat.le_refl _
def SP.ownbt (n : Nat) (b : BtM) : SP Ext := ⟨fun v w => ∃ A c, v = .agg (btC b A c) ∧ Own recK 54 w n (fun _ => False) (.slice A b.l.length c) b.l, fun {v w w'} h hE => by
  obtain ⟨A, c, h1, h2⟩ := h
  exact ⟨A, c, h1, h2.below hE⟩⟩
def SP.flatv (e0 : TypeId) (n : Nat) (L : List AtT) : SP Ext := ⟨fun v w => Own atK e0 w n (fun _ => False) v L, fun {v w w'} h hE => Own.below h hE⟩
def SP.onebt (b : BtM) (A : Option Addr) (c : Nat) : SP Ext := ⟨fun v w => ∃ g, v = .slice (some ⟨g, 0, none⟩) 1 1 ∧ w.heap[g]? = some (.cells (btC b A c) 24 (0, 0)), fun {v w w'} h hE => by
  obtain ⟨g, h1, h3⟩ := h
  exact ⟨g, h1, (hE.block g (Array.getElem?_eq_some_iff.1 h3).1).trans h3⟩⟩
theorem AtCells.ext {w w' : World} {a : Addr} {x : AtT} (h : AtCells w a x) (hE : Ext w w') : AtCells w' a x := by
  have hl : a.block < w.heap.size := World.block_lt_of_cell? w _ h.c0
  have g : ∀ p : Addr, p.block = a.block → w'.cell? p = w.cell? p := fun p hp => World.cell?_of_block (by rw [hp]; exact hE.block _ hl)
  exact ⟨(g a rfl).trans h.c0, (g ⟨a.block, a.off + 1, none⟩ rfl).trans h.c1, (g ⟨a.block, a.off + 2, none⟩ rfl).trans h.c2, (g ⟨a.block, a.off + 3, none⟩ rfl).trans h.c3, (g ⟨a.block, a.off + 4, none⟩ rfl).trans h.c4⟩
theorem own_arr {w : World} {B : Nat} {F : Nat → Prop} {A : Option Addr} {n c : Nat} {l : List Rc} (h : Own recK 54 w B F (.slice A n c) l) (hn : l.length = n) (h0 : 0 < n) : ∃ (g : Nat) (cs : Array Value), A = some ⟨g, 0, none⟩ ∧ B ≤ g ∧ w.heap[g]? = some (.cells cs 54 (0, 0)) ∧ n * 4 ≤ cs.size := by
  obtain ⟨cs', ⟨h1, h2⟩, hr⟩ := h
  rcases h2 with ⟨_, h2⟩ | ⟨g', cap, cur, e, hb, hh, hc, _, hs, _⟩
  · omega
  · injection e with e1 e2 e3
    exact ⟨g', cur, e1, hb, hh, by rw [hs]; show n * 4 ≤ cap * 4; omega⟩
theorem i64_wrap64 (x : Int) : I64 (wrap64 x) := by unfold I64 wrap64; omega
theorem at_five {l : List Int} (h : ∀ y ∈ l, I64 y) {w : World} {g : Nat} {e : TypeId} (hg : w.heap[g]? = some (.cells (l.map fun y => Value.int .i64 y).toArray e (0, 0))) (k : Nat) (hk : k < l.length) : ∃ y, I64 y ∧ w.cell? ⟨g, k, none⟩ = some (.int .i64 y) :=
  ⟨l[k], h _ (List.getElem_mem hk), by rw [cell_of hg]; simp [hk]⟩
set_option maxRecDepth 8000 in
set_option maxHeartbeats 4000000 in
theorem RecFroms_calls (b0 : BtM) (A0 : Option Addr) (c0 : Nat) (off : Int) (w : World) (h : BtAt w w.heap.size b0 A0 c0) (hoff : -9223372036854775808 ≤ off ∧ off ≤ 9223372036854775807) :
    Calls Try.prog 9 #[.agg (btC b0 A0 c0), .int .i64 off] w fun e w' => e = .returned (.bool true) ∧ Below w.heap.size w w' := by
  obtain ⟨h1, h2, h3⟩ := one_new w (.cells (btC b0 A0 c0) 24)
  have Hcut := Lib.hid (cut3_calls _ w.heap.size (by omega) b0 A0 c0 (h.below h2))
  clear h
  go_enter Try.func9, Try.ntmps9
  unfold btC at *
  go_upto_region 1 with fail
  generalize w.alloc _ = w1 at *
  have k0 := (cell_of h1 0).trans rfl
  have k1 := (cell_of h1 1).trans rfl
  have k2 := (cell_of h1 2).trans rfl
  have k3 := (cell_of h1 3).trans rfl
  have k4 := (cell_of h1 4).trans rfl
  have k5 := (cell_of h1 5).trans rfl
  have k6 := (cell_of h1 6).trans rfl
  go_wp2_with fail
  refine Hcut.out.mono ?_
  rintro e w2 ⟨b, hok, A, c, rfl, ho, hE2⟩
  have hs2 := hE2.size
  have h12 := (hE2.block w.heap.size (by omega)).trans h1
  clear k0 k1 k2 k3 k4 k5 k6
  unfold btC
  go_upto_region 2 with (refine gate_op (p := .store 24 (.tmp 2) (.tmp 17)) rfl ?_; go_must (refine put_row rfl 24 (.tmp 2) (.tmp 17) rfl w.heap.size (btC b A c) rfl rfl _ _ h12 size_bt rfl (btC_one _ _ _) ?_; intro w3 hp3))
  have hp3s := hp3.size
  have ho3 := hp3.own ho (fun k hk => by have := (ho.at hk).1; omega) (fun _ h => h.elim)
  have hE3 := hp3.below (Ext.trans _ _ _ h2 hE2) (Nat.le_refl _)
  have hb3 := btAt_own hok.ok ho3
  have Hj := Lib.hid (fun W (hE : Ext w3 W) => (⟨(hE.block w.heap.size (by omega)).trans hp3.obj⟩ : BtObj W w.heap.size b A b.l.length c))
  have Hb := Lib.hid (fun W (hE : Ext w3 W) => (hb3.below hE).up hE.size)
  have hl80 := hok.len
  have hbb := hok.ok.base
  have HE3 := Lib.hid hE3
  have hsw3 : w.heap.size < w3.heap.size := by omega
  clear Hcut h1 h12 hp3 ho ho3 hb3 hE2 h2 hE3 hs2 hp3s h3
  obtain ⟨k0, k1, k2, k3, k4, k5, k6⟩ := (Hj.out w3 (Ext.refl _)).cells
  go_upto_region 3 with fail
  clear k0 k1 k2 k3 k4 k5 k6
  obtain ⟨n1, n2, n3⟩ := one_new w3 (.cells #[.int .i64 off, .int .i64 b.base, .int .i64 (wrap64 (b.base + 1)), .int .i64 (wrap64 (wrap64 (b.base + (b.l.length : Int)) - 1)), .int .i64 (wrap64 (b.base + (b.l.length : Int)))] 2)
  generalize w3.alloc _ = w4 at *
  have Har := Lib.hid (fun W (hE : Ext w4 W) (k : Nat) (hk : k < 5) => at_five (l := [off, b.base, wrap64 (b.base + 1), wrap64 (wrap64 (b.base + (b.l.length : Int)) - 1), wrap64 (b.base + (b.l.length : Int))]) (by
    intro y hy
    simp only [List.mem_cons, List.not_mem_nil, or_false] at hy
    rcases hy with e | e | e | e | e <;> rw [e]
    · exact hoff
    · exact hbb
    · exact i64_wrap64 _
    · exact i64_wrap64 _
    · exact i64_wrap64 _) ((hE.block w3.heap.size (by omega)).trans n1) k hk)
  have N2 := Lib.hid n2
  clear n1 n2 n3
  go_loopw [39] (fun i wr => ∃ k : Nat, k ≤ 5 ∧ i = .int .i64 k ∧ Ext w4 wr) (fun i _ => 5 - (intOf i).toNat)
  case atStart => exact ⟨0, Nat.zero_le _, rfl, Ext.refl _⟩
  case round =>
    obtain ⟨k, hk, rfl, hE⟩ := hrel
    have hE3 := Ext.trans _ _ _ N2.out hE
    by_cases hlt : k < 5
    · have hlti : (k : Int) < 5 := by omega
      have Hms := Lib.hid (@meas_up k 5 hlt)
      obtain ⟨x, hx, hcx⟩ := Har.out wr hE k hlt
      have hx2 : -9223372036854775808 ≤ x ∧ x ≤ 9223372036854775807 := hx
      have Hf := Lib.hid (From_calls wr wr.heap.size (Nat.le_refl _) b A c (Hb.out wr hE3) (by omega) x hx2)
      have Hrf := Lib.hid (fun W (hE' : Ext w3 W) => Rfrom_calls W W.heap.size (Nat.le_refl _) b A c (Hb.out W hE') (by omega) x hx2)
      have Hfine := fromB_fine b x (by omega)
      have Hge := Lib.hid (fun hv => fromB_ge (b := b) hv x)
      generalize fromB b x = Q at *
      obtain ⟨X, okv⟩ := Q
      obtain ⟨hX1, hX2, hX3⟩ := Hfine
      unfold btC at Hf Hrf
      unfold FromPost at Hf
      unfold RFromPost at Hrf
      obtain ⟨k0, k1, k2, k3, k4, k5, k6⟩ := (Hj.out wr hE3).cells
      go_wp2_with fail
      refine Hf.out.mono ?_
      rintro e w5 ⟨y, A1, c1, rfl, hy, ho1, hE5⟩
      try simp only at hy
      subst hy
      clear k0 k1 k2 k3 k4 k5 k6
      clear Hf hcx
      unfold btC
      go_upto_region 6 with (refine gate_op (p := .store 24 (.tmp 7) (.tmp 47)) rfl ?_; go_must (refine put_row rfl 24 (.tmp 7) (.tmp 47) rfl w5.heap.size (btC y A1 c1) rfl rfl _ _ (one_new _ _).1 size_bt rfl (btC_one _ _ _) ?_; intro w6 hp6; have hE6 : Ext w5 w6 := hp6.below (one_new _ _).2.1 (Nat.le_refl _); have ho6 := hp6.own (ho1.below (one_new w5 _).2.1) (fun k hk => by have := (ho1.at hk).2; omega) (fun _ h => h.elim); have H6 := Lib.hid (And.intro hE6 (And.intro ho6 hp6.obj)); clear hE6 ho6 hp6))
      have hE56 := Ext.trans _ _ _ hE5 H6.out.1
      have hE36 := Ext.trans _ _ _ hE3 hE56
      have Hrf6 := Lib.hid (Hrf.out w6 hE36)
      obtain ⟨k0, k1, k2, k3, k4, k5, k6⟩ := (Hj.out w6 hE36).cells
      clear Hrf ho1
      go_wp2_with fail
      refine Hrf6.out.mono ?_
      rintro e w7 ⟨y2, A2, c2, rfl, hy2, hbt2, hE7⟩
      try simp only at hy2
      subst hy2
      clear k0 k1 k2 k3 k4 k5 k6
      clear Hrf6
      unfold btC
      go_upto_region 7 with (refine gate_op (p := .store 24 (.tmp 9) (.tmp 53)) rfl ?_; go_must (refine put_row rfl 24 (.tmp 9) (.tmp 53) rfl w7.heap.size (btC y2 A2 c2) rfl rfl _ _ (one_new _ _).1 size_bt rfl (btC_one _ _ _) ?_; intro w8 hp8; have hE8 : Ext w7 w8 := hp8.below (one_new _ _).2.1 (Nat.le_refl _); have H8 := Lib.hid (And.intro hE8 hp8.obj); clear hE8 hp8))
      have hE78 := Ext.trans _ _ _ hE7 H8.out.1
      have hs56 : w5.heap.size < w6.heap.size := (Array.getElem?_eq_some_iff.1 H6.out.2.2).1
      have hj6 := (hE78.block w5.heap.size (by omega)).trans H6.out.2.2
      have hj8 := H8.out.2
      have hb2 := (hbt2.below H8.out.1).up H8.out.1.size
      have hb1 := (btAt_own hbt2.ok H6.out.2.1).below hE78 |>.up hE78.size
      have hE38 := Ext.trans _ _ _ hE36 hE78
      have hE48 := Ext.trans _ _ _ hE (Ext.trans _ _ _ hE56 hE78)
      have Hs := Lib.hid (Rsame_calls w8 w8.heap.size (Nat.le_refl _) y2 y2 A1 A2 c1 c2 hb1 hb2)
      rw [same_self] at Hs
      unfold btC at hj6 hj8 Hs
      have k0 := (cell_of hj6 0).trans rfl
      have k1 := (cell_of hj6 1).trans rfl
      have k2 := (cell_of hj6 2).trans rfl
      have k3 := (cell_of hj6 3).trans rfl
      have k4 := (cell_of hj6 4).trans rfl
      have k5 := (cell_of hj6 5).trans rfl
      have k6 := (cell_of hj6 6).trans rfl
      have q0 := (cell_of hj8 0).trans rfl
      have q1 := (cell_of hj8 1).trans rfl
      have q2 := (cell_of hj8 2).trans rfl
      have q3 := (cell_of hj8 3).trans rfl
      have q4 := (cell_of hj8 4).trans rfl
      have q5 := (cell_of hj8 5).trans rfl
      have q6 := (cell_of hj8 6).trans rfl
      have hokk : (okv != okv) = false := by simp
      have Ho := Lib.hid (And.intro hj6 (And.intro hj8 (And.intro hb1 hb2)))
      have Hx38 := Lib.hid (And.intro hE38 hE48)
      clear hj6 hj8 hb1 hb2 hbt2 H6 H8 hE5 hE7 hE56 hE78 hE36 hE38 hE48 hE hE3
      go_wp2_with fail
      refine Hs.out.mono ?_
      rintro e w9 ⟨rfl, hE9⟩
      clear k0 k1 k2 k3 k4 k5 k6
      clear q0 q1 q2 q3 q4 q5 q6
      have Hp := Lib.hid (fun W (hE : Ext w9 W) => (⟨((Ext.trans _ _ _ hE9 hE).block w5.heap.size (Array.getElem?_eq_some_iff.1 Ho.out.1).1).trans Ho.out.1⟩ : BtObj W w5.heap.size y2 A1 y2.l.length c1))
      have Hq := Lib.hid (fun W (hE : Ext w9 W) => (⟨((Ext.trans _ _ _ hE9 hE).block w7.heap.size (Array.getElem?_eq_some_iff.1 Ho.out.2.1).1).trans Ho.out.2.1⟩ : BtObj W w7.heap.size y2 A2 y2.l.length c2))
      have HF1 := Lib.hid (fun W g (hE : Ext w9 W) (hg : W.heap[g]? = some (.cells (btC y2 A1 c1) 24 (0, 0))) => Flat_calls W (some ⟨g, 0, none⟩) 1 [y2] (Nat.le_refl 1) (by simp [maxLen]) (by simp) (by intro b hb; rw [List.mem_singleton.1 hb]; exact ⟨hX1, hX2, hX3⟩) (row_one hg (Array.getElem?_eq_some_iff.1 hg).1 ⟨A1, c1, rfl, Ho.out.2.2.1.ok, Ho.out.2.2.1.lc, ((Ho.out.2.2.1.below (Ext.trans _ _ _ hE9 hE)).up (Ext.trans _ _ _ hE9 hE).size).row⟩))
      have HF2 := Lib.hid (fun W g (hE : Ext w9 W) (hg : W.heap[g]? = some (.cells (btC y2 A2 c2) 24 (0, 0))) => Rflat_calls W (some ⟨g, 0, none⟩) 1 [y2] (Nat.le_refl 1) (by simp [maxLen]) (by simp) (by intro b hb; rw [List.mem_singleton.1 hb]; exact ⟨hX1, hX2, hX3⟩) (row_one hg (Array.getElem?_eq_some_iff.1 hg).1 ⟨A2, c2, rfl, Ho.out.2.2.2.ok, Ho.out.2.2.2.lc, ((Ho.out.2.2.2.below (Ext.trans _ _ _ hE9 hE)).up (Ext.trans _ _ _ hE9 hE).size).row⟩))
      have Hx39 := Lib.hid (And.intro (Ext.trans _ _ _ Hx38.out.1 hE9) (Ext.trans _ _ _ Hx38.out.2 hE9))
      rw [flatL_one] at HF1 HF2
      have hLl := flat1_len y2
      have hL1000 : (flat1 y2).length ≤ 1000 := by omega
      clear hE9 Ho Hs Hx38 hLl
      generalize flat1 y2 = L at *
      unfold FlatPost at HF1 HF2
      go_upto_region 9 with fail
      refine wp_region_steps [.eq (.agg #[.int .i64 y2.base, .int .i64 y2.pid, .int .i64 y2.epoch, .int .i64 y2.seq, .int .i64 y2.kind, .int .i64 y2.time, .slice A1 y2.l.length c1]), .onebt y2 A1 c1, .flatv 56 w9.heap.size L, .eq (.agg #[.int .i64 y2.base, .int .i64 y2.pid, .int .i64 y2.epoch, .int .i64 y2.seq, .int .i64 y2.kind, .int .i64 y2.time, .slice A2 y2.l.length c2]), .onebt y2 A2 c2, .flatv 58 w9.heap.size L, .flatv 56 w9.heap.size L, .flatv 58 w9.heap.size L] (by kernel_rfl) (by kernel_rfl) (all_dst (by kernel_rfl)) ?_ ?_
      · refine ⟨?_, ?_, ?_, ?_, ?_, ?_, ?_, ?_, trivial⟩
        · intro S W K hE hf hd hK
          have f7 : S.tmps.getD 7 undef = .pointer (some ⟨w5.heap.size, 0, none⟩) := hf 7 (by kernel_rfl)
          refine want_free rfl ?_
          rw [Array.getD_eq_getD_getElem?] at f7
          obtain ⟨k0, k1, k2, k3, k4, k5, k6⟩ := (Hp.out W hE).cells
          go_simp
          exact hK _ _ (Ext.refl _) (fun _ => rfl)
        · intro S W K hE hf hd hK
          have d64 : S.tmps.getD 64 undef = (.agg #[.int .i64 y2.base, .int .i64 y2.pid, .int .i64 y2.epoch, .int .i64 y2.seq, .int .i64 y2.kind, .int .i64 y2.time, .slice A1 y2.l.length c1]) := hd 0 _ rfl (by kernel_rfl)
          refine want_free rfl ?_
          rw [Array.getD_eq_getD_getElem?] at d64
          go_simp
          exact hK _ _ (Ext.alloc _ _) (fun _ => ⟨W.heap.size, rfl, (one_new _ _).1⟩)
        · intro S W K hE hf hd hK
          have d65 := hd 1 _ rfl (by kernel_rfl)
          refine want_free rfl ?_
          obtain ⟨g65, e65, hg65⟩ := (show ∃ g, S.tmps.getD 65 undef = .slice (some ⟨g, 0, none⟩) 1 1 ∧ W.heap[g]? = some (.cells (btC y2 A1 c1) 24 (0, 0)) from d65)
          rw [Array.getD_eq_getD_getElem?] at e65
          have H65 := Lib.hid (HF1.out W g65 hE hg65)
          clear d65 hg65
          go_simp
          refine H65.out.mono ?_
          rintro e W' ⟨v, rfl, ho9, hb9⟩
          exact hK _ _ hb9 (fun _ => ho9.lower hE.size)
        · intro S W K hE hf hd hK
          have f9 : S.tmps.getD 9 undef = .pointer (some ⟨w7.heap.size, 0, none⟩) := hf 9 (by kernel_rfl)
          refine want_free rfl ?_
          rw [Array.getD_eq_getD_getElem?] at f9
          obtain ⟨k0, k1, k2, k3, k4, k5, k6⟩ := (Hq.out W hE).cells
          go_simp
          exact hK _ _ (Ext.refl _) (fun _ => rfl)
        · intro S W K hE hf hd hK
          have d67 : S.tmps.getD 67 undef = (.agg #[.int .i64 y2.base, .int .i64 y2.pid, .int .i64 y2.epoch, .int .i64 y2.seq, .int .i64 y2.kind, .int .i64 y2.time, .slice A2 y2.l.length c2]) := hd 3 _ rfl (by kernel_rfl)
          refine want_free rfl ?_
          rw [Array.getD_eq_getD_getElem?] at d67
          go_simp
          exact hK _ _ (Ext.alloc _ _) (fun _ => ⟨W.heap.size, rfl, (one_new _ _).1⟩)
        · intro S W K hE hf hd hK
          have d68 := hd 4 _ rfl (by kernel_rfl)
          refine want_free rfl ?_
          obtain ⟨g68, e68, hg68⟩ := (show ∃ g, S.tmps.getD 68 undef = .slice (some ⟨g, 0, none⟩) 1 1 ∧ W.heap[g]? = some (.cells (btC y2 A2 c2) 24 (0, 0)) from d68)
          rw [Array.getD_eq_getD_getElem?] at e68
          have H68 := Lib.hid (HF2.out W g68 hE hg68)
          clear d68 hg68
          go_simp
          refine H68.out.mono ?_
          rintro e W' ⟨v, rfl, ho9, hb9⟩
          exact hK _ _ hb9 (fun _ => ho9.lower hE.size)
        · intro S W K hE hf hd hK
          have d66 := hd 2 _ rfl (by kernel_rfl)
          refine want_free rfl ?_
          have h66 : Own atK 56 W w9.heap.size (fun _ => False) (S.tmps[66]?.getD undef) L := by rw [← Array.getD_eq_getD_getElem?]; exact d66
          go_simp
          exact hK _ _ (Ext.refl _) (fun _ => h66)
        · intro S W K hE hf hd hK
          have d69 := hd 5 _ rfl (by kernel_rfl)
          refine want_free rfl ?_
          have h69 : Own atK 58 W w9.heap.size (fun _ => False) (S.tmps[69]?.getD undef) L := by rw [← Array.getD_eq_getD_getElem?]; exact d69
          go_simp
          exact hK _ _ (Ext.refl _) (fun _ => h69)
      · intro vs W hE hV
        have v0 : vs 0 = (.agg #[.int .i64 y2.base, .int .i64 y2.pid, .int .i64 y2.epoch, .int .i64 y2.seq, .int .i64 y2.kind, .int .i64 y2.time, .slice A1 y2.l.length c1]) := hV 0 _ rfl (fun h => by cases h)
        have v1 := hV 1 _ rfl (fun h => by cases h)
        have v2 := hV 2 _ rfl (fun h => by cases h)
        have v3 : vs 3 = (.agg #[.int .i64 y2.base, .int .i64 y2.pid, .int .i64 y2.epoch, .int .i64 y2.seq, .int .i64 y2.kind, .int .i64 y2.time, .slice A2 y2.l.length c2]) := hV 3 _ rfl (fun h => by cases h)
        have v4 := hV 4 _ rfl (fun h => by cases h)
        have v5 := hV 5 _ rfl (fun h => by cases h)
        have v6 := hV 6 _ rfl (fun h => by cases h)
        have v7 := hV 7 _ rfl (fun h => by cases h)
        clear hV
        set_option maxRecDepth 100000 in simp only [putAll, List.map_cons, List.map_nil, List.length_cons, List.length_nil, Nat.reduceAdd, List.range_succ, List.range_zero, List.nil_append, List.cons_append]
        set_option maxRecDepth 100000 in go_simp
        have o11 := (show Own atK 56 W w9.heap.size (fun _ => False) (vs 6) L from v6)
        have o12 := (show Own atK 58 W w9.heap.size (fun _ => False) (vs 7) L from v7)
        obtain ⟨A3, c3, e3, _, _, hr3⟩ := o11.sl
        obtain ⟨A4, c4, e4, _, _, hr4⟩ := o12.sl
        have hr3b := hr3.lt
        have hr4b := hr4.lt
        rw [e3, e4]
        have Hr3 := Lib.hid (fun W' (hE' : Ext W W') => hr3b.belowF (fun _ h => h) hE')
        have Hr4 := Lib.hid (fun W' (hE' : Ext W W') => hr4b.belowF (fun _ h => h) hE')
        have HxW := Lib.hid (And.intro (Ext.trans _ _ _ Hx39.out.1 hE) (Ext.trans _ _ _ Hx39.out.2 hE))
        clear o11 o12 e3 e4 hr3 hr4 hr3b hr4b v0 v1 v2 v3 v4 v5 v6 v7 hE HF1 HF2 Hp Hq Hx39
        generalize W = w10 at *
        go_upto_region 13 with fail
        go_loopw [77] (fun i wr => ∃ j : Nat, j ≤ L.length ∧ i = .int .i64 j ∧ Ext w10 wr) (fun i _ => L.length - (intOf i).toNat)
        case atStart => exact ⟨0, Nat.zero_le _, rfl, Ext.refl _⟩
        case round =>
          obtain ⟨j, hj, rfl, hEj⟩ := hrel
          by_cases hjt : j < L.length
          · have hjti : (j : Int) < (L.length : Int) := by omega
            have hE3r := Ext.trans _ _ _ HxW.out.1 hEj
            have Hme := Lib.hid (@meas_up j L.length hjt)
            obtain ⟨ad3, rfl, hcc3⟩ := at_at (Hr3.out wr hEj) j hjt
            obtain ⟨ad4, rfl, hcc4⟩ := at_at (Hr4.out wr hEj) j hjt
            have Hgj := Lib.hid (fun hv => Hge.out hv _ (List.getElem_mem hjt))
            have HV := Lib.hid (fun W (hE : Ext w3 W) => Valid_calls W W.heap.size (Nat.le_refl _) b A c (Hb.out W hE))
            unfold btC at HV
            generalize validE b = vE at *
            generalize L[j] = p at *
            obtain ⟨o, kk, vv, gg, tt⟩ := p
            have Hc3 := Lib.hid (fun W (hE : Ext wr W) => hcc3.ext hE)
            have Hc4 := Lib.hid (fun W (hE : Ext wr W) => hcc4.ext hE)
            have Hne := Lib.hid (fun W => neq_rec W kk vv gg tt kk vv gg tt)
            simp only [decide_true, Bool.not_true] at Hne
            clear hcc3 hcc4
            go_upto_region 15 with fail
            by_cases hv0 : vE = 0
            · have hnl : ¬ o < x := by have := Hgj.out hv0; simp only at this; omega
              subst hv0
              refine wp_region_steps [.eq (.slice (some ad3) L.length c3), .eq (.int .i64 (j : Int)), .eq (.pointer (some (ad3.add (j * 5)))), .eq (.pointer (some (ad3.add (j * 5)))), .eq (.int .i64 o), .eq (.slice (some ad4) L.length c4), .eq (.int .i64 (j : Int)), .eq (.pointer (some (ad4.add (j * 5)))), .eq (.pointer (some (ad4.add (j * 5)))), .eq (.int .i64 o), .eq (.bool false), .eq (.bool false), .eq (.slice (some ad3) L.length c3), .eq (.int .i64 (j : Int)), .eq (.pointer (some (ad3.add (j * 5)))), .eq (.pointer (some ⟨(ad3.add (j * 5)).block, (ad3.add (j * 5)).off + 1, none⟩)), .eq (.agg #[.string kk, .string vv, .bool gg, .int .i64 tt]), .eq (.slice (some ad4) L.length c4), .eq (.int .i64 (j : Int)), .eq (.pointer (some (ad4.add (j * 5)))), .eq (.pointer (some ⟨(ad4.add (j * 5)).block, (ad4.add (j * 5)).off + 1, none⟩)), .eq (.agg #[.string kk, .string vv, .bool gg, .int .i64 tt]), .eq (.bool false), .eq (.bool false), .eq (.bool false), .eq (.agg #[.int .i64 b.base, .int .i64 b.pid, .int .i64 b.epoch, .int .i64 b.seq, .int .i64 b.kind, .int .i64 b.time, .slice A b.l.length c]), .eq (.int .i64 0), .eq (.bool true), .eq (.bool true), .eq (.slice (some ad3) L.length c3), .eq (.int .i64 (j : Int)), .eq (.pointer (some (ad3.add (j * 5)))), .eq (.pointer (some (ad3.add (j * 5)))), .eq (.int .i64 o), .eq (.int .i64 x), .eq (.bool false), .eq (.bool false), .eq (.bool false)] (by kernel_rfl) (by kernel_rfl) (all_dst (by kernel_rfl)) ?_ ?_
              · refine ⟨?_, ?_, ?_, ?_, ?_, ?_, ?_, ?_, ?_, ?_, ?_, ?_, ?_, ?_, ?_, ?_, ?_, ?_, ?_, ?_, ?_, ?_, ?_, ?_, ?_, ?_, ?_, ?_, ?_, ?_, ?_, ?_, ?_, ?_, ?_, ?_, ?_, ?_, trivial⟩
                · intro S W K hE hf hd hK
                  have f11 : S.tmps.getD 11 undef = .slice (some ad3) L.length c3 := hf 11 (by kernel_rfl)
                  refine want_free rfl ?_
                  rw [Array.getD_eq_getD_getElem?] at f11
                  go_simp
                  exact hK _ _ (Ext.refl _) (fun _ => rfl)
                · intro S W K hE hf hd hK
                  have f13 : S.tmps.getD 13 undef = .int .i64 (j : Int) := hf 13 (by kernel_rfl)
                  refine want_free rfl ?_
                  rw [Array.getD_eq_getD_getElem?] at f13
                  go_simp
                  exact hK _ _ (Ext.refl _) (fun _ => rfl)
                · intro S W K hE hf hd hK
                  have d80 : S.tmps.getD 80 undef = (.slice (some ad3) L.length c3) := hd 0 _ rfl (by kernel_rfl)
                  have d81 : S.tmps.getD 81 undef = (.int .i64 (j : Int)) := hd 1 _ rfl (by kernel_rfl)
                  refine want_free rfl ?_
                  rw [Array.getD_eq_getD_getElem?] at d80 d81
                  go_simp
                  exact hK _ _ (Ext.refl _) (fun _ => rfl)
                · intro S W K hE hf hd hK
                  have d82 : S.tmps.getD 82 undef = (.pointer (some (ad3.add (j * 5)))) := hd 2 _ rfl (by kernel_rfl)
                  refine want_free rfl ?_
                  rw [Array.getD_eq_getD_getElem?] at d82
                  go_simp
                  exact hK _ _ (Ext.refl _) (fun _ => rfl)
                · intro S W K hE hf hd hK
                  have d83 : S.tmps.getD 83 undef = (.pointer (some (ad3.add (j * 5)))) := hd 3 _ rfl (by kernel_rfl)
                  refine want_free rfl ?_
                  rw [Array.getD_eq_getD_getElem?] at d83
                  obtain ⟨q0, q1, q2, q3, q4⟩ := Hc3.out W hE
                  simp only at q0 q1 q2 q3 q4
                  go_simp
                  exact hK _ _ (Ext.refl _) (fun _ => rfl)
                · intro S W K hE hf hd hK
                  have f12 : S.tmps.getD 12 undef = .slice (some ad4) L.length c4 := hf 12 (by kernel_rfl)
                  refine want_free rfl ?_
                  rw [Array.getD_eq_getD_getElem?] at f12
                  go_simp
                  exact hK _ _ (Ext.refl _) (fun _ => rfl)
                · intro S W K hE hf hd hK
                  have f13 : S.tmps.getD 13 undef = .int .i64 (j : Int) := hf 13 (by kernel_rfl)
                  refine want_free rfl ?_
                  rw [Array.getD_eq_getD_getElem?] at f13
                  go_simp
                  exact hK _ _ (Ext.refl _) (fun _ => rfl)
                · intro S W K hE hf hd hK
                  have d85 : S.tmps.getD 85 undef = (.slice (some ad4) L.length c4) := hd 5 _ rfl (by kernel_rfl)
                  have d86 : S.tmps.getD 86 undef = (.int .i64 (j : Int)) := hd 6 _ rfl (by kernel_rfl)
                  refine want_free rfl ?_
                  rw [Array.getD_eq_getD_getElem?] at d85 d86
                  go_simp
                  exact hK _ _ (Ext.refl _) (fun _ => rfl)
                · intro S W K hE hf hd hK
                  have d87 : S.tmps.getD 87 undef = (.pointer (some (ad4.add (j * 5)))) := hd 7 _ rfl (by kernel_rfl)
                  refine want_free rfl ?_
                  rw [Array.getD_eq_getD_getElem?] at d87
                  go_simp
                  exact hK _ _ (Ext.refl _) (fun _ => rfl)
                · intro S W K hE hf hd hK
                  have d88 : S.tmps.getD 88 undef = (.pointer (some (ad4.add (j * 5)))) := hd 8 _ rfl (by kernel_rfl)
                  refine want_free rfl ?_
                  rw [Array.getD_eq_getD_getElem?] at d88
                  obtain ⟨q0, q1, q2, q3, q4⟩ := Hc4.out W hE
                  simp only at q0 q1 q2 q3 q4
                  go_simp
                  exact hK _ _ (Ext.refl _) (fun _ => rfl)
                · intro S W K hE hf hd hK
                  have d84 : S.tmps.getD 84 undef = (.int .i64 o) := hd 4 _ rfl (by kernel_rfl)
                  have d89 : S.tmps.getD 89 undef = (.int .i64 o) := hd 9 _ rfl (by kernel_rfl)
                  refine want_free rfl ?_
                  rw [Array.getD_eq_getD_getElem?] at d84 d89
                  go_simp
                  exact hK _ _ (Ext.refl _) (fun _ => rfl)
                · intro S W K hE hf hd hK
                  have d90 : S.tmps.getD 90 undef = (.bool false) := hd 10 _ rfl (by kernel_rfl)
                  refine want_free rfl ?_
                  rw [Array.getD_eq_getD_getElem?] at d90
                  go_simp
                  exact hK _ _ (Ext.refl _) (fun _ => rfl)
                · intro S W K hE hf hd hK
                  have f11 : S.tmps.getD 11 undef = .slice (some ad3) L.length c3 := hf 11 (by kernel_rfl)
                  have d91 : S.tmps.getD 91 undef = (.bool false) := hd 11 _ rfl (by kernel_rfl)
                  refine want_then (t := 91) d91 rfl rfl rfl ?_
                  rw [Array.getD_eq_getD_getElem?] at f11 d91
                  go_simp
                  exact hK _ _ (Ext.refl _) (fun _ => rfl)
                · intro S W K hE hf hd hK
                  have f13 : S.tmps.getD 13 undef = .int .i64 (j : Int) := hf 13 (by kernel_rfl)
                  have d91 : S.tmps.getD 91 undef = (.bool false) := hd 11 _ rfl (by kernel_rfl)
                  refine want_then (t := 91) d91 rfl rfl rfl ?_
                  rw [Array.getD_eq_getD_getElem?] at f13 d91
                  go_simp
                  exact hK _ _ (Ext.refl _) (fun _ => rfl)
                · intro S W K hE hf hd hK
                  have d92 : S.tmps.getD 92 undef = (.slice (some ad3) L.length c3) := hd 12 _ rfl (by kernel_rfl)
                  have d93 : S.tmps.getD 93 undef = (.int .i64 (j : Int)) := hd 13 _ rfl (by kernel_rfl)
                  have d91 : S.tmps.getD 91 undef = (.bool false) := hd 11 _ rfl (by kernel_rfl)
                  refine want_then (t := 91) d91 rfl rfl rfl ?_
                  rw [Array.getD_eq_getD_getElem?] at d92 d93 d91
                  go_simp
                  exact hK _ _ (Ext.refl _) (fun _ => rfl)
                · intro S W K hE hf hd hK
                  have d94 : S.tmps.getD 94 undef = (.pointer (some (ad3.add (j * 5)))) := hd 14 _ rfl (by kernel_rfl)
                  have d91 : S.tmps.getD 91 undef = (.bool false) := hd 11 _ rfl (by kernel_rfl)
                  refine want_then (t := 91) d91 rfl rfl rfl ?_
                  rw [Array.getD_eq_getD_getElem?] at d94 d91
                  go_simp
                  exact hK _ _ (Ext.refl _) (fun _ => rfl)
                · intro S W K hE hf hd hK
                  have d95 : S.tmps.getD 95 undef = (.pointer (some ⟨(ad3.add (j * 5)).block, (ad3.add (j * 5)).off + 1, none⟩)) := hd 15 _ rfl (by kernel_rfl)
                  have d91 : S.tmps.getD 91 undef = (.bool false) := hd 11 _ rfl (by kernel_rfl)
                  refine want_then (t := 91) d91 rfl rfl rfl ?_
                  rw [Array.getD_eq_getD_getElem?] at d95 d91
                  obtain ⟨q0, q1, q2, q3, q4⟩ := Hc3.out W hE
                  simp only at q0 q1 q2 q3 q4
                  go_simp
                  exact hK _ _ (Ext.refl _) (fun _ => rfl)
                · intro S W K hE hf hd hK
                  have f12 : S.tmps.getD 12 undef = .slice (some ad4) L.length c4 := hf 12 (by kernel_rfl)
                  have d91 : S.tmps.getD 91 undef = (.bool false) := hd 11 _ rfl (by kernel_rfl)
                  refine want_then (t := 91) d91 rfl rfl rfl ?_
                  rw [Array.getD_eq_getD_getElem?] at f12 d91
                  go_simp
                  exact hK _ _ (Ext.refl _) (fun _ => rfl)
                · intro S W K hE hf hd hK
                  have f13 : S.tmps.getD 13 undef = .int .i64 (j : Int) := hf 13 (by kernel_rfl)
                  have d91 : S.tmps.getD 91 undef = (.bool false) := hd 11 _ rfl (by kernel_rfl)
                  refine want_then (t := 91) d91 rfl rfl rfl ?_
                  rw [Array.getD_eq_getD_getElem?] at f13 d91
                  go_simp
                  exact hK _ _ (Ext.refl _) (fun _ => rfl)
                · intro S W K hE hf hd hK
                  have d97 : S.tmps.getD 97 undef = (.slice (some ad4) L.length c4) := hd 17 _ rfl (by kernel_rfl)
                  have d98 : S.tmps.getD 98 undef = (.int .i64 (j : Int)) := hd 18 _ rfl (by kernel_rfl)
                  have d91 : S.tmps.getD 91 undef = (.bool false) := hd 11 _ rfl (by kernel_rfl)
                  refine want_then (t := 91) d91 rfl rfl rfl ?_
                  rw [Array.getD_eq_getD_getElem?] at d97 d98 d91
                  go_simp
                  exact hK _ _ (Ext.refl _) (fun _ => rfl)
                · intro S W K hE hf hd hK
                  have d99 : S.tmps.getD 99 undef = (.pointer (some (ad4.add (j * 5)))) := hd 19 _ rfl (by kernel_rfl)
                  have d91 : S.tmps.getD 91 undef = (.bool false) := hd 11 _ rfl (by kernel_rfl)
                  refine want_then (t := 91) d91 rfl rfl rfl ?_
                  rw [Array.getD_eq_getD_getElem?] at d99 d91
                  go_simp
                  exact hK _ _ (Ext.refl _) (fun _ => rfl)
                · intro S W K hE hf hd hK
                  have d100 : S.tmps.getD 100 undef = (.pointer (some ⟨(ad4.add (j * 5)).block, (ad4.add (j * 5)).off + 1, none⟩)) := hd 20 _ rfl (by kernel_rfl)
                  have d91 : S.tmps.getD 91 undef = (.bool false) := hd 11 _ rfl (by kernel_rfl)
                  refine want_then (t := 91) d91 rfl rfl rfl ?_
                  rw [Array.getD_eq_getD_getElem?] at d100 d91
                  obtain ⟨q0, q1, q2, q3, q4⟩ := Hc4.out W hE
                  simp only at q0 q1 q2 q3 q4
                  go_simp
                  exact hK _ _ (Ext.refl _) (fun _ => rfl)
                · intro S W K hE hf hd hK
                  have d96 : S.tmps.getD 96 undef = (.agg #[.string kk, .string vv, .bool gg, .int .i64 tt]) := hd 16 _ rfl (by kernel_rfl)
                  have d101 : S.tmps.getD 101 undef = (.agg #[.string kk, .string vv, .bool gg, .int .i64 tt]) := hd 21 _ rfl (by kernel_rfl)
                  have d91 : S.tmps.getD 91 undef = (.bool false) := hd 11 _ rfl (by kernel_rfl)
                  refine want_then (t := 91) d91 rfl rfl rfl ?_
                  rw [Array.getD_eq_getD_getElem?] at d96 d101 d91
                  have hne := Hne.out W
                  go_simp
                  exact hK _ _ (Ext.refl _) (fun _ => rfl)
                · intro S W K hE hf hd hK
                  have d91 : S.tmps.getD 91 undef = (.bool false) := hd 11 _ rfl (by kernel_rfl)
                  have d102 : S.tmps.getD 102 undef = (.bool false) := hd 22 _ rfl (by kernel_rfl)
                  refine want_free rfl ?_
                  rw [Array.getD_eq_getD_getElem?] at d91 d102
                  go_simp
                  exact hK _ _ (Ext.refl _) (fun _ => rfl)
                · intro S W K hE hf hd hK
                  have d103 : S.tmps.getD 103 undef = (.bool false) := hd 23 _ rfl (by kernel_rfl)
                  refine want_free rfl ?_
                  rw [Array.getD_eq_getD_getElem?] at d103
                  go_simp
                  exact hK _ _ (Ext.refl _) (fun _ => rfl)
                · intro S W K hE hf hd hK
                  have f2 : S.tmps.getD 2 undef = .pointer (some ⟨w.heap.size, 0, none⟩) := hf 2 (by kernel_rfl)
                  have d104 : S.tmps.getD 104 undef = (.bool false) := hd 24 _ rfl (by kernel_rfl)
                  refine want_then (t := 104) d104 rfl rfl rfl ?_
                  rw [Array.getD_eq_getD_getElem?] at f2 d104
                  obtain ⟨k0, k1, k2, k3, k4, k5, k6⟩ := (Hj.out W (Ext.trans _ _ _ hE3r hE)).cells
                  go_simp
                  exact hK _ _ (Ext.refl _) (fun _ => rfl)
                · intro S W K hE hf hd hK
                  have d105 : S.tmps.getD 105 undef = (.agg #[.int .i64 b.base, .int .i64 b.pid, .int .i64 b.epoch, .int .i64 b.seq, .int .i64 b.kind, .int .i64 b.time, .slice A b.l.length c]) := hd 25 _ rfl (by kernel_rfl)
                  have d104 : S.tmps.getD 104 undef = (.bool false) := hd 24 _ rfl (by kernel_rfl)
                  refine want_then (t := 104) d104 rfl rfl rfl ?_
                  rw [Array.getD_eq_getD_getElem?] at d105 d104
                  go_simp
                  refine (HV.out W (Ext.trans _ _ _ hE3r hE)).mono ?_
                  rintro e W' ⟨rfl, hb⟩
                  exact hK _ _ hb (fun _ => rfl)
                · intro S W K hE hf hd hK
                  have d106 : S.tmps.getD 106 undef = (.int .i64 0) := hd 26 _ rfl (by kernel_rfl)
                  have d104 : S.tmps.getD 104 undef = (.bool false) := hd 24 _ rfl (by kernel_rfl)
                  refine want_then (t := 104) d104 rfl rfl rfl ?_
                  rw [Array.getD_eq_getD_getElem?] at d106 d104
                  go_simp
                  exact hK _ _ (Ext.refl _) (fun _ => rfl)
                · intro S W K hE hf hd hK
                  have d107 : S.tmps.getD 107 undef = (.bool true) := hd 27 _ rfl (by kernel_rfl)
                  have d104 : S.tmps.getD 104 undef = (.bool false) := hd 24 _ rfl (by kernel_rfl)
                  refine want_then (t := 104) d104 rfl rfl rfl ?_
                  rw [Array.getD_eq_getD_getElem?] at d107 d104
                  go_simp
                  exact hK _ _ (Ext.refl _) (fun _ => rfl)
                · intro S W K hE hf hd hK
                  have f11 : S.tmps.getD 11 undef = .slice (some ad3) L.length c3 := hf 11 (by kernel_rfl)
                  have d108 : S.tmps.getD 108 undef = (.bool true) := hd 28 _ rfl (by kernel_rfl)
                  refine want_then (t := 108) d108 rfl rfl rfl ?_
                  rw [Array.getD_eq_getD_getElem?] at f11 d108
                  go_simp
                  exact hK _ _ (Ext.refl _) (fun _ => rfl)
                · intro S W K hE hf hd hK
                  have f13 : S.tmps.getD 13 undef = .int .i64 (j : Int) := hf 13 (by kernel_rfl)
                  have d108 : S.tmps.getD 108 undef = (.bool true) := hd 28 _ rfl (by kernel_rfl)
                  refine want_then (t := 108) d108 rfl rfl rfl ?_
                  rw [Array.getD_eq_getD_getElem?] at f13 d108
                  go_simp
                  exact hK _ _ (Ext.refl _) (fun _ => rfl)
                · intro S W K hE hf hd hK
                  have d109 : S.tmps.getD 109 undef = (.slice (some ad3) L.length c3) := hd 29 _ rfl (by kernel_rfl)
                  have d110 : S.tmps.getD 110 undef = (.int .i64 (j : Int)) := hd 30 _ rfl (by kernel_rfl)
                  have d108 : S.tmps.getD 108 undef = (.bool true) := hd 28 _ rfl (by kernel_rfl)
                  refine want_then (t := 108) d108 rfl rfl rfl ?_
                  rw [Array.getD_eq_getD_getElem?] at d109 d110 d108
                  go_simp
                  exact hK _ _ (Ext.refl _) (fun _ => rfl)
                · intro S W K hE hf hd hK
                  have d111 : S.tmps.getD 111 undef = (.pointer (some (ad3.add (j * 5)))) := hd 31 _ rfl (by kernel_rfl)
                  have d108 : S.tmps.getD 108 undef = (.bool true) := hd 28 _ rfl (by kernel_rfl)
                  refine want_then (t := 108) d108 rfl rfl rfl ?_
                  rw [Array.getD_eq_getD_getElem?] at d111 d108
                  go_simp
                  exact hK _ _ (Ext.refl _) (fun _ => rfl)
                · intro S W K hE hf hd hK
                  have d112 : S.tmps.getD 112 undef = (.pointer (some (ad3.add (j * 5)))) := hd 32 _ rfl (by kernel_rfl)
                  have d108 : S.tmps.getD 108 undef = (.bool true) := hd 28 _ rfl (by kernel_rfl)
                  refine want_then (t := 108) d108 rfl rfl rfl ?_
                  rw [Array.getD_eq_getD_getElem?] at d112 d108
                  obtain ⟨q0, q1, q2, q3, q4⟩ := Hc3.out W hE
                  simp only at q0 q1 q2 q3 q4
                  go_simp
                  exact hK _ _ (Ext.refl _) (fun _ => rfl)
                · intro S W K hE hf hd hK
                  have f6 : S.tmps.getD 6 undef = .int .i64 x := hf 6 (by kernel_rfl)
                  have d108 : S.tmps.getD 108 undef = (.bool true) := hd 28 _ rfl (by kernel_rfl)
                  refine want_then (t := 108) d108 rfl rfl rfl ?_
                  rw [Array.getD_eq_getD_getElem?] at f6 d108
                  go_simp
                  exact hK _ _ (Ext.refl _) (fun _ => rfl)
                · intro S W K hE hf hd hK
                  have d113 : S.tmps.getD 113 undef = (.int .i64 o) := hd 33 _ rfl (by kernel_rfl)
                  have d114 : S.tmps.getD 114 undef = (.int .i64 x) := hd 34 _ rfl (by kernel_rfl)
                  have d108 : S.tmps.getD 108 undef = (.bool true) := hd 28 _ rfl (by kernel_rfl)
                  refine want_then (t := 108) d108 rfl rfl rfl ?_
                  rw [Array.getD_eq_getD_getElem?] at d113 d114 d108
                  go_simp
                  exact hK _ _ (Ext.refl _) (fun _ => rfl)
                · intro S W K hE hf hd hK
                  have d108 : S.tmps.getD 108 undef = (.bool true) := hd 28 _ rfl (by kernel_rfl)
                  have d115 : S.tmps.getD 115 undef = (.bool false) := hd 35 _ rfl (by kernel_rfl)
                  have d104 : S.tmps.getD 104 undef = (.bool false) := hd 24 _ rfl (by kernel_rfl)
                  refine want_then (t := 104) d104 rfl rfl rfl ?_
                  rw [Array.getD_eq_getD_getElem?] at d108 d115 d104
                  go_simp
                  exact hK _ _ (Ext.refl _) (fun _ => rfl)
                · intro S W K hE hf hd hK
                  have d104 : S.tmps.getD 104 undef = (.bool false) := hd 24 _ rfl (by kernel_rfl)
                  have d116 : S.tmps.getD 116 undef = (.bool false) := hd 36 _ rfl (by kernel_rfl)
                  refine want_free rfl ?_
                  rw [Array.getD_eq_getD_getElem?] at d104 d116
                  go_simp
                  exact hK _ _ (Ext.refl _) (fun _ => rfl)
              · intro vs W hE hV
                have v0 : vs 0 = (.slice (some ad3) L.length c3) := hV 0 _ rfl (fun h => by cases h)
                have v1 : vs 1 = (.int .i64 (j : Int)) := hV 1 _ rfl (fun h => by cases h)
                have v2 : vs 2 = (.pointer (some (ad3.add (j * 5)))) := hV 2 _ rfl (fun h => by cases h)
                have v3 : vs 3 = (.pointer (some (ad3.add (j * 5)))) := hV 3 _ rfl (fun h => by cases h)
                have v4 : vs 4 = (.int .i64 o) := hV 4 _ rfl (fun h => by cases h)
                have v5 : vs 5 = (.slice (some ad4) L.length c4) := hV 5 _ rfl (fun h => by cases h)
                have v6 : vs 6 = (.int .i64 (j : Int)) := hV 6 _ rfl (fun h => by cases h)
                have v7 : vs 7 = (.pointer (some (ad4.add (j * 5)))) := hV 7 _ rfl (fun h => by cases h)
                have v8 : vs 8 = (.pointer (some (ad4.add (j * 5)))) := hV 8 _ rfl (fun h => by cases h)
                have v9 : vs 9 = (.int .i64 o) := hV 9 _ rfl (fun h => by cases h)
                have v10 : vs 10 = (.bool false) := hV 10 _ rfl (fun h => by cases h)
                have v11 : vs 11 = (.bool false) := hV 11 _ rfl (fun h => by cases h)
                have v12 : vs 12 = (.slice (some ad3) L.length c3) := hV 12 _ rfl (fun h => by cases h)
                have v13 : vs 13 = (.int .i64 (j : Int)) := hV 13 _ rfl (fun h => by cases h)
                have v14 : vs 14 = (.pointer (some (ad3.add (j * 5)))) := hV 14 _ rfl (fun h => by cases h)
                have v15 : vs 15 = (.pointer (some ⟨(ad3.add (j * 5)).block, (ad3.add (j * 5)).off + 1, none⟩)) := hV 15 _ rfl (fun h => by cases h)
                have v16 : vs 16 = (.agg #[.string kk, .string vv, .bool gg, .int .i64 tt]) := hV 16 _ rfl (fun h => by cases h)
                have v17 : vs 17 = (.slice (some ad4) L.length c4) := hV 17 _ rfl (fun h => by cases h)
                have v18 : vs 18 = (.int .i64 (j : Int)) := hV 18 _ rfl (fun h => by cases h)
                have v19 : vs 19 = (.pointer (some (ad4.add (j * 5)))) := hV 19 _ rfl (fun h => by cases h)
                have v20 : vs 20 = (.pointer (some ⟨(ad4.add (j * 5)).block, (ad4.add (j * 5)).off + 1, none⟩)) := hV 20 _ rfl (fun h => by cases h)
                have v21 : vs 21 = (.agg #[.string kk, .string vv, .bool gg, .int .i64 tt]) := hV 21 _ rfl (fun h => by cases h)
                have v22 : vs 22 = (.bool false) := hV 22 _ rfl (fun h => by cases h)
                have v23 : vs 23 = (.bool false) := hV 23 _ rfl (fun h => by cases h)
                have v24 : vs 24 = (.bool false) := hV 24 _ rfl (fun h => by cases h)
                have v25 : vs 25 = (.agg #[.int .i64 b.base, .int .i64 b.pid, .int .i64 b.epoch, .int .i64 b.seq, .int .i64 b.kind, .int .i64 b.time, .slice A b.l.length c]) := hV 25 _ rfl (fun h => by cases h)
                have v26 : vs 26 = (.int .i64 0) := hV 26 _ rfl (fun h => by cases h)
                have v27 : vs 27 = (.bool true) := hV 27 _ rfl (fun h => by cases h)
                have v28 : vs 28 = (.bool true) := hV 28 _ rfl (fun h => by cases h)
                have v29 : vs 29 = (.slice (some ad3) L.length c3) := hV 29 _ rfl (fun h => by cases h)
                have v30 : vs 30 = (.int .i64 (j : Int)) := hV 30 _ rfl (fun h => by cases h)
                have v31 : vs 31 = (.pointer (some (ad3.add (j * 5)))) := hV 31 _ rfl (fun h => by cases h)
                have v32 : vs 32 = (.pointer (some (ad3.add (j * 5)))) := hV 32 _ rfl (fun h => by cases h)
                have v33 : vs 33 = (.int .i64 o) := hV 33 _ rfl (fun h => by cases h)
                have v34 : vs 34 = (.int .i64 x) := hV 34 _ rfl (fun h => by cases h)
                have v35 : vs 35 = (.bool false) := hV 35 _ rfl (fun h => by cases h)
                have v36 : vs 36 = (.bool false) := hV 36 _ rfl (fun h => by cases h)
                have v37 : vs 37 = (.bool false) := hV 37 _ rfl (fun h => by cases h)
                clear hV
                set_option maxRecDepth 100000 in simp only [putAll, List.map_cons, List.map_nil, List.length_cons, List.length_nil, Nat.reduceAdd, List.range_succ, List.range_zero, List.nil_append, List.cons_append]
                set_option maxRecDepth 100000 in go_simp
                clear v0 v1 v2 v3 v4 v5 v6 v7 v8 v9 v10 v11 v12 v13 v14 v15 v16 v17 v18 v19 v20 v21 v22 v23 v24 v25 v26 v27 v28 v29 v30 v31 v32 v33 v34 v35 v36 v37
                have hEf := Ext.trans _ _ _ hEj hE
                clear hE
                go_wp2
                go_roundw
                case rel => exact ⟨j + 1, hjt, by go_num, hEf⟩
                case measure => exact Hme.out
            · have hdv : decide (vE = 0) = false := decide_eq_false hv0
              have hdv2 : (vE == 0) = false := by rw [beq_eq_false_iff_ne]; exact hv0
              refine wp_region_steps [.eq (.slice (some ad3) L.length c3), .eq (.int .i64 (j : Int)), .eq (.pointer (some (ad3.add (j * 5)))), .eq (.pointer (some (ad3.add (j * 5)))), .eq (.int .i64 o), .eq (.slice (some ad4) L.length c4), .eq (.int .i64 (j : Int)), .eq (.pointer (some (ad4.add (j * 5)))), .eq (.pointer (some (ad4.add (j * 5)))), .eq (.int .i64 o), .eq (.bool false), .eq (.bool false), .eq (.slice (some ad3) L.length c3), .eq (.int .i64 (j : Int)), .eq (.pointer (some (ad3.add (j * 5)))), .eq (.pointer (some ⟨(ad3.add (j * 5)).block, (ad3.add (j * 5)).off + 1, none⟩)), .eq (.agg #[.string kk, .string vv, .bool gg, .int .i64 tt]), .eq (.slice (some ad4) L.length c4), .eq (.int .i64 (j : Int)), .eq (.pointer (some (ad4.add (j * 5)))), .eq (.pointer (some ⟨(ad4.add (j * 5)).block, (ad4.add (j * 5)).off + 1, none⟩)), .eq (.agg #[.string kk, .string vv, .bool gg, .int .i64 tt]), .eq (.bool false), .eq (.bool false), .eq (.bool false), .eq (.agg #[.int .i64 b.base, .int .i64 b.pid, .int .i64 b.epoch, .int .i64 b.seq, .int .i64 b.kind, .int .i64 b.time, .slice A b.l.length c]), .eq (.int .i64 vE), .eq (.bool false), .eq (.bool false), .eq undef, .eq undef, .eq undef, .eq undef, .eq undef, .eq undef, .eq undef, .eq (.bool false), .eq (.bool false)] (by kernel_rfl) (by kernel_rfl) (all_dst (by kernel_rfl)) ?_ ?_
              · refine ⟨?_, ?_, ?_, ?_, ?_, ?_, ?_, ?_, ?_, ?_, ?_, ?_, ?_, ?_, ?_, ?_, ?_, ?_, ?_, ?_, ?_, ?_, ?_, ?_, ?_, ?_, ?_, ?_, ?_, ?_, ?_, ?_, ?_, ?_, ?_, ?_, ?_, ?_, trivial⟩
                · intro S W K hE hf hd hK
                  have f11 : S.tmps.getD 11 undef = .slice (some ad3) L.length c3 := hf 11 (by kernel_rfl)
                  refine want_free rfl ?_
                  rw [Array.getD_eq_getD_getElem?] at f11
                  go_simp
                  exact hK _ _ (Ext.refl _) (fun _ => rfl)
                · intro S W K hE hf hd hK
                  have f13 : S.tmps.getD 13 undef = .int .i64 (j : Int) := hf 13 (by kernel_rfl)
                  refine want_free rfl ?_
                  rw [Array.getD_eq_getD_getElem?] at f13
                  go_simp
                  exact hK _ _ (Ext.refl _) (fun _ => rfl)
                · intro S W K hE hf hd hK
                  have d80 : S.tmps.getD 80 undef = (.slice (some ad3) L.length c3) := hd 0 _ rfl (by kernel_rfl)
                  have d81 : S.tmps.getD 81 undef = (.int .i64 (j : Int)) := hd 1 _ rfl (by kernel_rfl)
                  refine want_free rfl ?_
                  rw [Array.getD_eq_getD_getElem?] at d80 d81
                  go_simp
                  exact hK _ _ (Ext.refl _) (fun _ => rfl)
                · intro S W K hE hf hd hK
                  have d82 : S.tmps.getD 82 undef = (.pointer (some (ad3.add (j * 5)))) := hd 2 _ rfl (by kernel_rfl)
                  refine want_free rfl ?_
                  rw [Array.getD_eq_getD_getElem?] at d82
                  go_simp
                  exact hK _ _ (Ext.refl _) (fun _ => rfl)
                · intro S W K hE hf hd hK
                  have d83 : S.tmps.getD 83 undef = (.pointer (some (ad3.add (j * 5)))) := hd 3 _ rfl (by kernel_rfl)
                  refine want_free rfl ?_
                  rw [Array.getD_eq_getD_getElem?] at d83
                  obtain ⟨q0, q1, q2, q3, q4⟩ := Hc3.out W hE
                  simp only at q0 q1 q2 q3 q4
                  go_simp
                  exact hK _ _ (Ext.refl _) (fun _ => rfl)
                · intro S W K hE hf hd hK
                  have f12 : S.tmps.getD 12 undef = .slice (some ad4) L.length c4 := hf 12 (by kernel_rfl)
                  refine want_free rfl ?_
                  rw [Array.getD_eq_getD_getElem?] at f12
                  go_simp
                  exact hK _ _ (Ext.refl _) (fun _ => rfl)
                · intro S W K hE hf hd hK
                  have f13 : S.tmps.getD 13 undef = .int .i64 (j : Int) := hf 13 (by kernel_rfl)
                  refine want_free rfl ?_
                  rw [Array.getD_eq_getD_getElem?] at f13
                  go_simp
                  exact hK _ _ (Ext.refl _) (fun _ => rfl)
                · intro S W K hE hf hd hK
                  have d85 : S.tmps.getD 85 undef = (.slice (some ad4) L.length c4) := hd 5 _ rfl (by kernel_rfl)
                  have d86 : S.tmps.getD 86 undef = (.int .i64 (j : Int)) := hd 6 _ rfl (by kernel_rfl)
                  refine want_free rfl ?_
                  rw [Array.getD_eq_getD_getElem?] at d85 d86
                  go_simp
                  exact hK _ _ (Ext.refl _) (fun _ => rfl)
                · intro S W K hE hf hd hK
                  have d87 : S.tmps.getD 87 undef = (.pointer (some (ad4.add (j * 5)))) := hd 7 _ rfl (by kernel_rfl)
                  refine want_free rfl ?_
                  rw [Array.getD_eq_getD_getElem?] at d87
                  go_simp
                  exact hK _ _ (Ext.refl _) (fun _ => rfl)
                · intro S W K hE hf hd hK
                  have d88 : S.tmps.getD 88 undef = (.pointer (some (ad4.add (j * 5)))) := hd 8 _ rfl (by kernel_rfl)
                  refine want_free rfl ?_
                  rw [Array.getD_eq_getD_getElem?] at d88
                  obtain ⟨q0, q1, q2, q3, q4⟩ := Hc4.out W hE
                  simp only at q0 q1 q2 q3 q4
                  go_simp
                  exact hK _ _ (Ext.refl _) (fun _ => rfl)
                · intro S W K hE hf hd hK
                  have d84 : S.tmps.getD 84 undef = (.int .i64 o) := hd 4 _ rfl (by kernel_rfl)
                  have d89 : S.tmps.getD 89 undef = (.int .i64 o) := hd 9 _ rfl (by kernel_rfl)
                  refine want_free rfl ?_
                  rw [Array.getD_eq_getD_getElem?] at d84 d89
                  go_simp
                  exact hK _ _ (Ext.refl _) (fun _ => rfl)
                · intro S W K hE hf hd hK
                  have d90 : S.tmps.getD 90 undef = (.bool false) := hd 10 _ rfl (by kernel_rfl)
                  refine want_free rfl ?_
                  rw [Array.getD_eq_getD_getElem?] at d90
                  go_simp
                  exact hK _ _ (Ext.refl _) (fun _ => rfl)
                · intro S W K hE hf hd hK
                  have f11 : S.tmps.getD 11 undef = .slice (some ad3) L.length c3 := hf 11 (by kernel_rfl)
                  have d91 : S.tmps.getD 91 undef = (.bool false) := hd 11 _ rfl (by kernel_rfl)
                  refine want_then (t := 91) d91 rfl rfl rfl ?_
                  rw [Array.getD_eq_getD_getElem?] at f11 d91
                  go_simp
                  exact hK _ _ (Ext.refl _) (fun _ => rfl)
                · intro S W K hE hf hd hK
                  have f13 : S.tmps.getD 13 undef = .int .i64 (j : Int) := hf 13 (by kernel_rfl)
                  have d91 : S.tmps.getD 91 undef = (.bool false) := hd 11 _ rfl (by kernel_rfl)
                  refine want_then (t := 91) d91 rfl rfl rfl ?_
                  rw [Array.getD_eq_getD_getElem?] at f13 d91
                  go_simp
                  exact hK _ _ (Ext.refl _) (fun _ => rfl)
                · intro S W K hE hf hd hK
                  have d92 : S.tmps.getD 92 undef = (.slice (some ad3) L.length c3) := hd 12 _ rfl (by kernel_rfl)
                  have d93 : S.tmps.getD 93 undef = (.int .i64 (j : Int)) := hd 13 _ rfl (by kernel_rfl)
                  have d91 : S.tmps.getD 91 undef = (.bool false) := hd 11 _ rfl (by kernel_rfl)
                  refine want_then (t := 91) d91 rfl rfl rfl ?_
                  rw [Array.getD_eq_getD_getElem?] at d92 d93 d91
                  go_simp
                  exact hK _ _ (Ext.refl _) (fun _ => rfl)
                · intro S W K hE hf hd hK
                  have d94 : S.tmps.getD 94 undef = (.pointer (some (ad3.add (j * 5)))) := hd 14 _ rfl (by kernel_rfl)
                  have d91 : S.tmps.getD 91 undef = (.bool false) := hd 11 _ rfl (by kernel_rfl)
                  refine want_then (t := 91) d91 rfl rfl rfl ?_
                  rw [Array.getD_eq_getD_getElem?] at d94 d91
                  go_simp
                  exact hK _ _ (Ext.refl _) (fun _ => rfl)
                · intro S W K hE hf hd hK
                  have d95 : S.tmps.getD 95 undef = (.pointer (some ⟨(ad3.add (j * 5)).block, (ad3.add (j * 5)).off + 1, none⟩)) := hd 15 _ rfl (by kernel_rfl)
                  have d91 : S.tmps.getD 91 undef = (.bool false) := hd 11 _ rfl (by kernel_rfl)
                  refine want_then (t := 91) d91 rfl rfl rfl ?_
                  rw [Array.getD_eq_getD_getElem?] at d95 d91
                  obtain ⟨q0, q1, q2, q3, q4⟩ := Hc3.out W hE
                  simp only at q0 q1 q2 q3 q4
                  go_simp
                  exact hK _ _ (Ext.refl _) (fun _ => rfl)
                · intro S W K hE hf hd hK
                  have f12 : S.tmps.getD 12 undef = .slice (some ad4) L.length c4 := hf 12 (by kernel_rfl)
                  have d91 : S.tmps.getD 91 undef = (.bool false) := hd 11 _ rfl (by kernel_rfl)
                  refine want_then (t := 91) d91 rfl rfl rfl ?_
                  rw [Array.getD_eq_getD_getElem?] at f12 d91
                  go_simp
                  exact hK _ _ (Ext.refl _) (fun _ => rfl)
                · intro S W K hE hf hd hK
                  have f13 : S.tmps.getD 13 undef = .int .i64 (j : Int) := hf 13 (by kernel_rfl)
                  have d91 : S.tmps.getD 91 undef = (.bool false) := hd 11 _ rfl (by kernel_rfl)
                  refine want_then (t := 91) d91 rfl rfl rfl ?_
                  rw [Array.getD_eq_getD_getElem?] at f13 d91
                  go_simp
                  exact hK _ _ (Ext.refl _) (fun _ => rfl)
                · intro S W K hE hf hd hK
                  have d97 : S.tmps.getD 97 undef = (.slice (some ad4) L.length c4) := hd 17 _ rfl (by kernel_rfl)
                  have d98 : S.tmps.getD 98 undef = (.int .i64 (j : Int)) := hd 18 _ rfl (by kernel_rfl)
                  have d91 : S.tmps.getD 91 undef = (.bool false) := hd 11 _ rfl (by kernel_rfl)
                  refine want_then (t := 91) d91 rfl rfl rfl ?_
                  rw [Array.getD_eq_getD_getElem?] at d97 d98 d91
                  go_simp
                  exact hK _ _ (Ext.refl _) (fun _ => rfl)
                · intro S W K hE hf hd hK
                  have d99 : S.tmps.getD 99 undef = (.pointer (some (ad4.add (j * 5)))) := hd 19 _ rfl (by kernel_rfl)
                  have d91 : S.tmps.getD 91 undef = (.bool false) := hd 11 _ rfl (by kernel_rfl)
                  refine want_then (t := 91) d91 rfl rfl rfl ?_
                  rw [Array.getD_eq_getD_getElem?] at d99 d91
                  go_simp
                  exact hK _ _ (Ext.refl _) (fun _ => rfl)
                · intro S W K hE hf hd hK
                  have d100 : S.tmps.getD 100 undef = (.pointer (some ⟨(ad4.add (j * 5)).block, (ad4.add (j * 5)).off + 1, none⟩)) := hd 20 _ rfl (by kernel_rfl)
                  have d91 : S.tmps.getD 91 undef = (.bool false) := hd 11 _ rfl (by kernel_rfl)
                  refine want_then (t := 91) d91 rfl rfl rfl ?_
                  rw [Array.getD_eq_getD_getElem?] at d100 d91
                  obtain ⟨q0, q1, q2, q3, q4⟩ := Hc4.out W hE
                  simp only at q0 q1 q2 q3 q4
                  go_simp
                  exact hK _ _ (Ext.refl _) (fun _ => rfl)
                · intro S W K hE hf hd hK
                  have d96 : S.tmps.getD 96 undef = (.agg #[.string kk, .string vv, .bool gg, .int .i64 tt]) := hd 16 _ rfl (by kernel_rfl)
                  have d101 : S.tmps.getD 101 undef = (.agg #[.string kk, .string vv, .bool gg, .int .i64 tt]) := hd 21 _ rfl (by kernel_rfl)
                  have d91 : S.tmps.getD 91 undef = (.bool false) := hd 11 _ rfl (by kernel_rfl)
                  refine want_then (t := 91) d91 rfl rfl rfl ?_
                  rw [Array.getD_eq_getD_getElem?] at d96 d101 d91
                  have hne := Hne.out W
                  go_simp
                  exact hK _ _ (Ext.refl _) (fun _ => rfl)
                · intro S W K hE hf hd hK
                  have d91 : S.tmps.getD 91 undef = (.bool false) := hd 11 _ rfl (by kernel_rfl)
                  have d102 : S.tmps.getD 102 undef = (.bool false) := hd 22 _ rfl (by kernel_rfl)
                  refine want_free rfl ?_
                  rw [Array.getD_eq_getD_getElem?] at d91 d102
                  go_simp
                  exact hK _ _ (Ext.refl _) (fun _ => rfl)
                · intro S W K hE hf hd hK
                  have d103 : S.tmps.getD 103 undef = (.bool false) := hd 23 _ rfl (by kernel_rfl)
                  refine want_free rfl ?_
                  rw [Array.getD_eq_getD_getElem?] at d103
                  go_simp
                  exact hK _ _ (Ext.refl _) (fun _ => rfl)
                · intro S W K hE hf hd hK
                  have f2 : S.tmps.getD 2 undef = .pointer (some ⟨w.heap.size, 0, none⟩) := hf 2 (by kernel_rfl)
                  have d104 : S.tmps.getD 104 undef = (.bool false) := hd 24 _ rfl (by kernel_rfl)
                  refine want_then (t := 104) d104 rfl rfl rfl ?_
                  rw [Array.getD_eq_getD_getElem?] at f2 d104
                  obtain ⟨k0, k1, k2, k3, k4, k5, k6⟩ := (Hj.out W (Ext.trans _ _ _ hE3r hE)).cells
                  go_simp
                  exact hK _ _ (Ext.refl _) (fun _ => rfl)
                · intro S W K hE hf hd hK
                  have d105 : S.tmps.getD 105 undef = (.agg #[.int .i64 b.base, .int .i64 b.pid, .int .i64 b.epoch, .int .i64 b.seq, .int .i64 b.kind, .int .i64 b.time, .slice A b.l.length c]) := hd 25 _ rfl (by kernel_rfl)
                  have d104 : S.tmps.getD 104 undef = (.bool false) := hd 24 _ rfl (by kernel_rfl)
                  refine want_then (t := 104) d104 rfl rfl rfl ?_
                  rw [Array.getD_eq_getD_getElem?] at d105 d104
                  go_simp
                  refine (HV.out W (Ext.trans _ _ _ hE3r hE)).mono ?_
                  rintro e W' ⟨rfl, hb⟩
                  exact hK _ _ hb (fun _ => rfl)
                · intro S W K hE hf hd hK
                  have d106 : S.tmps.getD 106 undef = (.int .i64 vE) := hd 26 _ rfl (by kernel_rfl)
                  have d104 : S.tmps.getD 104 undef = (.bool false) := hd 24 _ rfl (by kernel_rfl)
                  refine want_then (t := 104) d104 rfl rfl rfl ?_
                  rw [Array.getD_eq_getD_getElem?] at d106 d104
                  go_simp
                  exact hK _ _ (Ext.refl _) (fun _ => rfl)
                · intro S W K hE hf hd hK
                  have d107 : S.tmps.getD 107 undef = (.bool false) := hd 27 _ rfl (by kernel_rfl)
                  have d104 : S.tmps.getD 104 undef = (.bool false) := hd 24 _ rfl (by kernel_rfl)
                  refine want_then (t := 104) d104 rfl rfl rfl ?_
                  rw [Array.getD_eq_getD_getElem?] at d107 d104
                  go_simp
                  exact hK _ _ (Ext.refl _) (fun _ => rfl)
                · intro S W K hE hf hd hK
                  have f11 : S.tmps.getD 11 undef = .slice (some ad3) L.length c3 := hf 11 (by kernel_rfl)
                  have d108 : S.tmps.getD 108 undef = (.bool false) := hd 28 _ rfl (by kernel_rfl)
                  refine want_else (t := 108) d108 rfl rfl rfl rfl ?_
                  exact fun _ => rfl
                · intro S W K hE hf hd hK
                  have f13 : S.tmps.getD 13 undef = .int .i64 (j : Int) := hf 13 (by kernel_rfl)
                  have d108 : S.tmps.getD 108 undef = (.bool false) := hd 28 _ rfl (by kernel_rfl)
                  refine want_else (t := 108) d108 rfl rfl rfl rfl ?_
                  exact fun _ => rfl
                · intro S W K hE hf hd hK
                  have d109 : S.tmps.getD 109 undef = undef := hd 29 _ rfl (by kernel_rfl)
                  have d110 : S.tmps.getD 110 undef = undef := hd 30 _ rfl (by kernel_rfl)
                  have d108 : S.tmps.getD 108 undef = (.bool false) := hd 28 _ rfl (by kernel_rfl)
                  refine want_else (t := 108) d108 rfl rfl rfl rfl ?_
                  exact fun _ => rfl
                · intro S W K hE hf hd hK
                  have d111 : S.tmps.getD 111 undef = undef := hd 31 _ rfl (by kernel_rfl)
                  have d108 : S.tmps.getD 108 undef = (.bool false) := hd 28 _ rfl (by kernel_rfl)
                  refine want_else (t := 108) d108 rfl rfl rfl rfl ?_
                  exact fun _ => rfl
                · intro S W K hE hf hd hK
                  have d112 : S.tmps.getD 112 undef = undef := hd 32 _ rfl (by kernel_rfl)
                  have d108 : S.tmps.getD 108 undef = (.bool false) := hd 28 _ rfl (by kernel_rfl)
                  refine want_else (t := 108) d108 rfl rfl rfl rfl ?_
                  exact fun _ => rfl
                · intro S W K hE hf hd hK
                  have f6 : S.tmps.getD 6 undef = .int .i64 x := hf 6 (by kernel_rfl)
                  have d108 : S.tmps.getD 108 undef = (.bool false) := hd 28 _ rfl (by kernel_rfl)
                  refine want_else (t := 108) d108 rfl rfl rfl rfl ?_
                  exact fun _ => rfl
                · intro S W K hE hf hd hK
                  have d113 : S.tmps.getD 113 undef = undef := hd 33 _ rfl (by kernel_rfl)
                  have d114 : S.tmps.getD 114 undef = undef := hd 34 _ rfl (by kernel_rfl)
                  have d108 : S.tmps.getD 108 undef = (.bool false) := hd 28 _ rfl (by kernel_rfl)
                  refine want_else (t := 108) d108 rfl rfl rfl rfl ?_
                  exact fun _ => rfl
                · intro S W K hE hf hd hK
                  have d108 : S.tmps.getD 108 undef = (.bool false) := hd 28 _ rfl (by kernel_rfl)
                  have d115 : S.tmps.getD 115 undef = undef := hd 35 _ rfl (by kernel_rfl)
                  have d104 : S.tmps.getD 104 undef = (.bool false) := hd 24 _ rfl (by kernel_rfl)
                  refine want_then (t := 104) d104 rfl rfl rfl ?_
                  rw [Array.getD_eq_getD_getElem?] at d108 d115 d104
                  go_simp
                  exact hK _ _ (Ext.refl _) (fun _ => rfl)
                · intro S W K hE hf hd hK
                  have d104 : S.tmps.getD 104 undef = (.bool false) := hd 24 _ rfl (by kernel_rfl)
                  have d116 : S.tmps.getD 116 undef = (.bool false) := hd 36 _ rfl (by kernel_rfl)
                  refine want_free rfl ?_
                  rw [Array.getD_eq_getD_getElem?] at d104 d116
                  go_simp
                  exact hK _ _ (Ext.refl _) (fun _ => rfl)
              · intro vs W hE hV
                have v0 : vs 0 = (.slice (some ad3) L.length c3) := hV 0 _ rfl (fun h => by cases h)
                have v1 : vs 1 = (.int .i64 (j : Int)) := hV 1 _ rfl (fun h => by cases h)
                have v2 : vs 2 = (.pointer (some (ad3.add (j * 5)))) := hV 2 _ rfl (fun h => by cases h)
                have v3 : vs 3 = (.pointer (some (ad3.add (j * 5)))) := hV 3 _ rfl (fun h => by cases h)
                have v4 : vs 4 = (.int .i64 o) := hV 4 _ rfl (fun h => by cases h)
                have v5 : vs 5 = (.slice (some ad4) L.length c4) := hV 5 _ rfl (fun h => by cases h)
                have v6 : vs 6 = (.int .i64 (j : Int)) := hV 6 _ rfl (fun h => by cases h)
                have v7 : vs 7 = (.pointer (some (ad4.add (j * 5)))) := hV 7 _ rfl (fun h => by cases h)
                have v8 : vs 8 = (.pointer (some (ad4.add (j * 5)))) := hV 8 _ rfl (fun h => by cases h)
                have v9 : vs 9 = (.int .i64 o) := hV 9 _ rfl (fun h => by cases h)
                have v10 : vs 10 = (.bool false) := hV 10 _ rfl (fun h => by cases h)
                have v11 : vs 11 = (.bool false) := hV 11 _ rfl (fun h => by cases h)
                have v12 : vs 12 = (.slice (some ad3) L.length c3) := hV 12 _ rfl (fun h => by cases h)
                have v13 : vs 13 = (.int .i64 (j : Int)) := hV 13 _ rfl (fun h => by cases h)
                have v14 : vs 14 = (.pointer (some (ad3.add (j * 5)))) := hV 14 _ rfl (fun h => by cases h)
                have v15 : vs 15 = (.pointer (some ⟨(ad3.add (j * 5)).block, (ad3.add (j * 5)).off + 1, none⟩)) := hV 15 _ rfl (fun h => by cases h)
                have v16 : vs 16 = (.agg #[.string kk, .string vv, .bool gg, .int .i64 tt]) := hV 16 _ rfl (fun h => by cases h)
                have v17 : vs 17 = (.slice (some ad4) L.length c4) := hV 17 _ rfl (fun h => by cases h)
                have v18 : vs 18 = (.int .i64 (j : Int)) := hV 18 _ rfl (fun h => by cases h)
                have v19 : vs 19 = (.pointer (some (ad4.add (j * 5)))) := hV 19 _ rfl (fun h => by cases h)
                have v20 : vs 20 = (.pointer (some ⟨(ad4.add (j * 5)).block, (ad4.add (j * 5)).off + 1, none⟩)) := hV 20 _ rfl (fun h => by cases h)
                have v21 : vs 21 = (.agg #[.string kk, .string vv, .bool gg, .int .i64 tt]) := hV 21 _ rfl (fun h => by cases h)
                have v22 : vs 22 = (.bool false) := hV 22 _ rfl (fun h => by cases h)
                have v23 : vs 23 = (.bool false) := hV 23 _ rfl (fun h => by cases h)
                have v24 : vs 24 = (.bool false) := hV 24 _ rfl (fun h => by cases h)
                have v25 : vs 25 = (.agg #[.int .i64 b.base, .int .i64 b.pid, .int .i64 b.epoch, .int .i64 b.seq, .int .i64 b.kind, .int .i64 b.time, .slice A b.l.length c]) := hV 25 _ rfl (fun h => by cases h)
                have v26 : vs 26 = (.int .i64 vE) := hV 26 _ rfl (fun h => by cases h)
                have v27 : vs 27 = (.bool false) := hV 27 _ rfl (fun h => by cases h)
                have v28 : vs 28 = (.bool false) := hV 28 _ rfl (fun h => by cases h)
                have v29 : vs 29 = undef := hV 29 _ rfl (fun h => by cases h)
                have v30 : vs 30 = undef := hV 30 _ rfl (fun h => by cases h)
                have v31 : vs 31 = undef := hV 31 _ rfl (fun h => by cases h)
                have v32 : vs 32 = undef := hV 32 _ rfl (fun h => by cases h)
                have v33 : vs 33 = undef := hV 33 _ rfl (fun h => by cases h)
                have v34 : vs 34 = undef := hV 34 _ rfl (fun h => by cases h)
                have v35 : vs 35 = undef := hV 35 _ rfl (fun h => by cases h)
                have v36 : vs 36 = (.bool false) := hV 36 _ rfl (fun h => by cases h)
                have v37 : vs 37 = (.bool false) := hV 37 _ rfl (fun h => by cases h)
                clear hV
                set_option maxRecDepth 100000 in simp only [putAll, List.map_cons, List.map_nil, List.length_cons, List.length_nil, Nat.reduceAdd, List.range_succ, List.range_zero, List.nil_append, List.cons_append]
                set_option maxRecDepth 100000 in go_simp
                clear v0 v1 v2 v3 v4 v5 v6 v7 v8 v9 v10 v11 v12 v13 v14 v15 v16 v17 v18 v19 v20 v21 v22 v23 v24 v25 v26 v27 v28 v29 v30 v31 v32 v33 v34 v35 v36 v37
                have hEf := Ext.trans _ _ _ hEj hE
                clear hE
                go_wp2
                go_roundw
                case rel => exact ⟨j + 1, hjt, by go_num, hEf⟩
                case measure => exact Hme.out
          · have hji : ¬ (j : Int) < (L.length : Int) := by omega
            have hEk := Ext.trans _ _ _ HxW.out.2 hEj
            go_wp2
            go_roundw
            case rel => exact ⟨k + 1, hlt, by go_num, hEk⟩
            case measure => exact Hms.out
    · have hki : ¬ (k : Int) < 5 := by omega
      have Hc := Lib.hid (Copy_calls wr wr.heap.size (Nat.le_refl _) b A c (Hb.out wr hE3) (by omega))
      unfold btC at Hc
      unfold BtOwn at Hc
      obtain ⟨k0, k1, k2, k3, k4, k5, k6⟩ := (Hj.out wr hE3).cells
      clear Har N2 hE
      go_wp2_with fail
      refine Hc.out.mono ?_
      rintro e w5 ⟨A5, c5, rfl, ho5, hE5⟩
      clear k0 k1 k2 k3 k4 k5 k6
      unfold btC
      go_upto_region 20 with (refine gate_op (p := .store 24 (.tmp 14) (.tmp 121)) rfl ?_; go_must (refine put_row rfl 24 (.tmp 14) (.tmp 121) rfl w5.heap.size (btC b A5 c5) rfl rfl _ _ (one_new _ _).1 size_bt rfl (btC_one _ _ _) ?_; intro w6 hp6; have hE6 : Ext w5 w6 := hp6.below (one_new _ _).2.1 (Nat.le_refl _); have ho6 := hp6.own (ho5.below (one_new w5 _).2.1) (fun k hk => by have := (ho5.at hk).2; omega) (fun _ h => h.elim); have H6 := Lib.hid (And.intro hE6 (And.intro ho6 hp6.obj)); clear hE6 ho6 hp6))
      have hE56 := Ext.trans _ _ _ hE5 H6.out.1
      have ho6 := H6.out.2.1
      have hj6 := H6.out.2.2
      have hne6 := own_far ho6 hj6
      have Harr := Lib.hid (fun h0 : 0 < b.l.length => own_arr ho6 rfl h0)
      have Hob := Lib.hid hne6
      unfold btC at hj6
      have k6 : w6.cell? ⟨w5.heap.size, 6, none⟩ = some (.slice A5 b.l.length c5) := (cell_of hj6 6).trans rfl
      have hr5 := hE5.size
      have Hbo := Lib.hid (And.intro (Hb.out wr hE3) (And.intro (Hj.out wr hE3) (Below.trans HE3.out (Below.mono hE3 (by omega)))))
      have hwo : w.heap.size < wr.heap.size := by have := hE3.size; omega
      have Hst := Lib.hid (And.intro (show Below wr.heap.size wr w6 from hE56) hj6)
      clear ho5 hE5 H6 ho6 hj6 hne6 Hb Hj HE3 hE3 hE56 Hc
      generalize hn0e : wr.heap.size = n0 at *
      have Hn0 := Lib.hid (show n0 ≤ wr.heap.size by omega)
      clear hn0e
      generalize wr = wo at *
      generalize w5.heap.size = g5 at *
      go_upto_region 21 with fail
      clear k6
      go_loopw [125] (fun i wr => ∃ j : Nat, j ≤ b.l.length ∧ i = .int .i64 j ∧ Hid (0 < b.l.length → ∃ (g : Nat) (cs : Array Value), A5 = some ⟨g, 0, none⟩ ∧ n0 ≤ g ∧ wr.heap[g]? = some (.cells cs 54 (0, 0)) ∧ b.l.length * 4 ≤ cs.size) ∧ wr.heap[g5]? = some (.cells #[.int .i64 b.base, .int .i64 b.pid, .int .i64 b.epoch, .int .i64 b.seq, .int .i64 b.kind, .int .i64 b.time, .slice A5 b.l.length c5] 24 (0, 0)) ∧ Below n0 wo wr) (fun i _ => b.l.length - (intOf i).toNat)
      case atStart => exact ⟨0, Nat.zero_le _, rfl, Harr, Hst.out.2, Hst.out.1⟩
      case round =>
        obtain ⟨j, hj, rfl, Hcs, hj5, hBo⟩ := hrel
        by_cases hjt : j < b.l.length
        · have hjti : (j : Int) < (b.l.length : Int) := by omega
          have Hme := Lib.hid (@meas_up j b.l.length hjt)
          obtain ⟨g, cs, eA, hng, hgc, hcs⟩ := Hcs.out (by omega)
          have hgne : g ≠ g5 := Hob.out g (by rw [eA]; rfl)
          subst eA
          have k6 : wr.cell? ⟨g5, 6, none⟩ = some (.slice (some ⟨g, 0, none⟩) b.l.length c5) := (cell_of hj5 6).trans rfl
          have hjc : j * 4 < cs.size := by omega
          go_upto_region 24 with (refine gate_op (p := .store 9 (.tmp 132) (.const (.string ⟨#[115, 112, 111, 105, 108, 116]⟩))) rfl ?_; go_must (refine put_cell rfl 9 (.tmp 132) (.const (.string ⟨#[115, 112, 111, 105, 108, 116]⟩)) rfl g (j * 4) (.string ⟨#[115, 112, 111, 105, 108, 116]⟩) rfl rfl rfl _ _ hgc size_str hjc ?_; intro w9 hp9))
          clear k6
          have Hfin := Lib.hid (And.intro (show 0 < b.l.length → ∃ (g' : Nat) (cs : Array Value), (some ⟨g, 0, none⟩ : Option Addr) = some ⟨g', 0, none⟩ ∧ n0 ≤ g' ∧ w9.heap[g']? = some (.cells cs 54 (0, 0)) ∧ b.l.length * 4 ≤ cs.size from fun _ => ⟨g, _, rfl, hng, hp9.obj, by simpa using hcs⟩) (And.intro ((hp9.block g5 (fun e => hgne e.symm)).trans hj5) (hp9.below hBo hng)))
          clear hp9 hj5 hBo hgc
          go_wp2
          go_roundw
          case rel => exact ⟨j + 1, hjt, by go_num, Lib.hid Hfin.out.1, Hfin.out.2.1, Hfin.out.2.2⟩
          case measure => exact Hme.out
        · have hji : ¬ (j : Int) < (b.l.length : Int) := by omega
          obtain ⟨hbo, hjo, hEo⟩ := Hbo.out
          have hn0 := hBo.size
          have hn1 := Hn0.out
          have Hj2 := Lib.hid (fun W (hE : Ext wr W) => (⟨((Below.trans hBo (Below.mono hE (by omega))).block w.heap.size hwo).trans hjo.obj⟩ : BtObj W w.heap.size b A b.l.length c))
          have Hb2 := Lib.hid (fun W (hE : Ext wr W) => (hbo.below (Below.trans hBo (Below.mono hE (by omega)))).up (B' := W.heap.size) (by have := hE.size; omega))
          have Hfin := Lib.hid (Below.trans hEo (Below.mono hBo (by omega)))
          clear hj5 Hcs hBo hbo hjo hEo Hbo Hst Hob Harr
          have Hc := Lib.hid (fun W (hE : Ext wr W) => Copy_calls W W.heap.size (Nat.le_refl _) b A c (Hb2.out W hE) (by omega))
          have Hs := Lib.hid (fun W (hE : Ext wr W) A9 c9 hb9 => Rsame_calls W W.heap.size (Nat.le_refl _) b b A9 A c9 c hb9 (Hb2.out W hE))
          simp only [same_self] at Hs
          have hokb := hok.ok
          have Hokb := Lib.hid hokb
          clear hokb
          unfold btC at Hc Hs
          unfold BtOwn at Hc
          go_upto_region 25 with fail
          refine wp_region_steps [.eq (.agg #[.int .i64 b.base, .int .i64 b.pid, .int .i64 b.epoch, .int .i64 b.seq, .int .i64 b.kind, .int .i64 b.time, .slice A b.l.length c]), .ownbt wr.heap.size b, .eq (.agg #[.int .i64 b.base, .int .i64 b.pid, .int .i64 b.epoch, .int .i64 b.seq, .int .i64 b.kind, .int .i64 b.time, .slice A b.l.length c]), .eq (.bool true), .eq (.bool true), .eq (.bool true), .eq (.bool true), .eq (.bool true)] (by kernel_rfl) (by kernel_rfl) (all_dst (by kernel_rfl)) ?_ ?_
          · refine ⟨?_, ?_, ?_, ?_, ?_, ?_, ?_, ?_, trivial⟩
            · intro S W K hE hf hd hK
              have f2 : S.tmps.getD 2 undef = .pointer (some ⟨w.heap.size, 0, none⟩) := hf 2 (by kernel_rfl)
              refine want_free rfl ?_
              rw [Array.getD_eq_getD_getElem?] at f2
              obtain ⟨k0, k1, k2, k3, k4, k5, k6⟩ := (Hj2.out W hE).cells
              go_simp
              exact hK _ _ (Ext.refl _) (fun _ => rfl)
            · intro S W K hE hf hd hK
              have d134 : S.tmps.getD 134 undef = (.agg #[.int .i64 b.base, .int .i64 b.pid, .int .i64 b.epoch, .int .i64 b.seq, .int .i64 b.kind, .int .i64 b.time, .slice A b.l.length c]) := hd 0 _ rfl (by kernel_rfl)
              refine want_free rfl ?_
              rw [Array.getD_eq_getD_getElem?] at d134
              go_simp
              refine (Hc.out W hE).mono ?_
              rintro e W' ⟨A9, c9, rfl, ho9, hb9⟩
              exact hK _ _ hb9 (fun _ => ⟨A9, c9, rfl, ho9.lower hE.size⟩)
            · intro S W K hE hf hd hK
              have f2 : S.tmps.getD 2 undef = .pointer (some ⟨w.heap.size, 0, none⟩) := hf 2 (by kernel_rfl)
              refine want_free rfl ?_
              rw [Array.getD_eq_getD_getElem?] at f2
              obtain ⟨k0, k1, k2, k3, k4, k5, k6⟩ := (Hj2.out W hE).cells
              go_simp
              exact hK _ _ (Ext.refl _) (fun _ => rfl)
            · intro S W K hE hf hd hK
              have d135 := hd 1 _ rfl (by kernel_rfl)
              have d136 : S.tmps.getD 136 undef = (.agg #[.int .i64 b.base, .int .i64 b.pid, .int .i64 b.epoch, .int .i64 b.seq, .int .i64 b.kind, .int .i64 b.time, .slice A b.l.length c]) := hd 2 _ rfl (by kernel_rfl)
              refine want_free rfl ?_
              rw [Array.getD_eq_getD_getElem?] at d136
              obtain ⟨A9, c9, e135, ho9⟩ := (show ∃ A c, S.tmps.getD 135 undef = .agg (btC b A c) ∧ Own recK 54 W wr.heap.size (fun _ => False) (.slice A b.l.length c) b.l from d135)
              rw [Array.getD_eq_getD_getElem?] at e135
              have H9 := Lib.hid (Hs.out W hE A9 c9 (btAt_own Hokb.out ho9))
              clear d135 ho9
              unfold btC at e135
              go_simp
              refine H9.out.mono ?_
              rintro e W' ⟨rfl, hb9⟩
              exact hK _ _ hb9 (fun _ => rfl)
            · intro S W K hE hf hd hK
              have d137 : S.tmps.getD 137 undef = (.bool true) := hd 3 _ rfl (by kernel_rfl)
              refine want_free rfl ?_
              rw [Array.getD_eq_getD_getElem?] at d137
              go_simp
              exact hK _ _ (Ext.refl _) (fun _ => rfl)
            · intro S W K hE hf hd hK
              have d138 : S.tmps.getD 138 undef = (.bool true) := hd 4 _ rfl (by kernel_rfl)
              refine want_then (t := 138) d138 rfl rfl rfl ?_
              rw [Array.getD_eq_getD_getElem?] at d138
              go_simp
              refine (awake3_calls _).mono ?_
              rintro e W' ⟨rfl, hb⟩
              exact hK _ _ hb (fun _ => rfl)
            · intro S W K hE hf hd hK
              have d138 : S.tmps.getD 138 undef = (.bool true) := hd 4 _ rfl (by kernel_rfl)
              have d139 : S.tmps.getD 139 undef = (.bool true) := hd 5 _ rfl (by kernel_rfl)
              refine want_free rfl ?_
              rw [Array.getD_eq_getD_getElem?] at d138 d139
              go_simp
              exact hK _ _ (Ext.refl _) (fun _ => rfl)
            · intro S W K hE hf hd hK
              have d140 : S.tmps.getD 140 undef = (.bool true) := hd 6 _ rfl (by kernel_rfl)
              refine want_free rfl ?_
              rw [Array.getD_eq_getD_getElem?] at d140
              go_simp
              exact hK _ _ (Ext.refl _) (fun _ => rfl)
          · intro vs W hE hV
            have v0 : vs 0 = (.agg #[.int .i64 b.base, .int .i64 b.pid, .int .i64 b.epoch, .int .i64 b.seq, .int .i64 b.kind, .int .i64 b.time, .slice A b.l.length c]) := hV 0 _ rfl (fun h => by cases h)
            have v1 := hV 1 _ rfl (fun h => by cases h)
            have v2 : vs 2 = (.agg #[.int .i64 b.base, .int .i64 b.pid, .int .i64 b.epoch, .int .i64 b.seq, .int .i64 b.kind, .int .i64 b.time, .slice A b.l.length c]) := hV 2 _ rfl (fun h => by cases h)
            have v3 : vs 3 = (.bool true) := hV 3 _ rfl (fun h => by cases h)
            have v4 : vs 4 = (.bool true) := hV 4 _ rfl (fun h => by cases h)
            have v5 : vs 5 = (.bool true) := hV 5 _ rfl (fun h => by cases h)
            have v6 : vs 6 = (.bool true) := hV 6 _ rfl (fun h => by cases h)
            have v7 : vs 7 = (.bool true) := hV 7 _ rfl (fun h => by cases h)
            clear hV
            set_option maxRecDepth 100000 in simp only [putAll, List.map_cons, List.map_nil, List.length_cons, List.length_nil, Nat.reduceAdd, List.range_succ, List.range_zero, List.nil_append, List.cons_append]
            set_option maxRecDepth 100000 in go_simp
            try rw [v7]
            go_wp2
            go_ret
            exact ⟨rfl, Below.trans Hfin.out (Below.mono hE (by omega))⟩
end Go.Proofs.Ytaomhedjamnloaa
