/- Contract: rec's Flat. -/
import Derived.Test.YtaomhedjamnloaaRecMg
set_option linter.unusedVariables false
set_option linter.unusedSimpArgs false
namespace Go.Proofs.Ytaomhedjamnloaa
open Go Go.RowKit

abbrev AtT := Int × Rc
def atK : Kd AtT := pair (num .i64) recK
theorem flat_at : Flat atK := flat_pair (flat_sc _ _ _) flat_rec
def numFrom : Int → List Rc → List AtT
  | _, [] => []
  | k, r :: l => (k, r) :: numFrom (k + 1) l
theorem numFrom_snoc : ∀ (l : List Rc) (k : Int) (r : Rc), numFrom k (l ++ [r]) = numFrom k l ++ [(k + (l.length : Int), r)]
  | [], k, r => by simp [numFrom]
  | x :: l, k, r => by
    rw [List.cons_append, numFrom, numFrom_snoc l (k + 1) r, numFrom, List.cons_append]
    congr 3
    simp
    omega
theorem numFrom_len : ∀ (l : List Rc) (k : Int), (numFrom k l).length = l.length
  | [], _ => rfl
  | x :: l, k => by rw [numFrom, List.length_cons, numFrom_len l (k + 1), List.length_cons]
def flat1 (b : BtM) : List AtT := if markB b = true then [] else numFrom b.base b.l
def flatL (l : List BtM) : List AtT := (l.map flat1).flatten
theorem flatL_snoc {l : List BtM} {k : Nat} (hk : k < l.length) : flatL (l.take (k + 1)) = flatL (l.take k) ++ flat1 l[k] := by
  unfold flatL
  rw [List.take_succ_eq_append_getElem hk, List.map_append, List.flatten_append]
  simp
theorem flatL_len {l : List BtM} {m : Nat} (h : ∀ b ∈ l, b.l.length ≤ m) (k : Nat) : (flatL (l.take k)).length ≤ k * m := by
  unfold flatL
  induction l generalizing k with
  | nil => simp
  | cons x l ih =>
    cases k with
    | zero => simp
    | succ k =>
      have h1 := h x (List.mem_cons_self ..)
      have h2 := ih (fun y hy => h y (List.mem_cons_of_mem _ hy)) k
      have h3 : (flat1 x).length ≤ m := by
        unfold flat1
        split
        · exact Nat.zero_le _
        · rw [numFrom_len]; exact h1
      rw [List.take_succ_cons, List.map_cons, List.flatten_cons, List.length_append, Nat.add_mul, Nat.one_mul]
      omega
theorem flatL_le {l : List BtM} (hl : l.length ≤ 1000) (h : ∀ b ∈ l, b.l.length ≤ 1000) (k : Nat) : (flatL (l.take k)).length ≤ 1000000 := by
  have e : l.take k = l.take (min k l.length) := by
    rcases Nat.le_total k l.length with h | h
    · rw [Nat.min_eq_left h]
    · rw [Nat.min_eq_right h, List.take_length, List.take_of_length_le h]
  rw [e]
  have := flatL_len h (min k l.length)
  omega
theorem atK_mk (w : World) (F : Nat → Prop) {o : Int} {r : Rc} (ho : I64 o) (h1 : r.1.size ≤ maxLen) (h2 : r.2.1.size ≤ maxLen) (h3 : I64 r.2.2.2) : atK.K w F (o, r) [.int .i64 o, .string r.1, .string r.2.1, .bool r.2.2.1, .int .i64 r.2.2.2] :=
  ⟨[_], [_, _, _, _], rfl, num64_one w F _ ho, recK_mk w F h1 h2 h3⟩
theorem info_at : (Try.prog.info? 56).map (fun i => (i.zero.map (fun z => z.cells.size), i.size, i.bytes)) = some (some atK.sz, atK.sz, 56) := by kernel_rfl
theorem size_rec2 : (Try.prog.info? 54).map (·.size) = some 4 := by kernel_rfl
theorem recC_one2 (r : Rc) : (#[Value.string r.1, .string r.2.1, .bool r.2.2.1, .int .i64 r.2.2.2] : Array Value).all (·.oneCell') = true := by simp [Value.oneCell']
/-- A row's cells and its element, apart. -/
theorem rec_at' {w : World} {F : Nat → Prop} {A : Option Addr} {xs : List Rc} (h : Row recK w F A xs) (k : Nat) (hk : k < xs.length) : ∃ ad, A = some ad ∧ RecCells w (ad.add (k * 4)) xs[k] ∧ RecOk xs[k] := rec_at h k hk
theorem own_ne {α : Type} {d : Kd α} {e t : TypeId} {w : World} {n g : Nat} {F : Nat → Prop} {v : Value} {l : List α} {cs : Array Value} (h : Own d e w n F v l) (hg : w.heap[g]? = some (.cells cs t (0, 0))) (hne : e ≠ t) : ∀ k, v.ownBlock = some k → k ≠ g := by
  rintro k hk rfl
  obtain ⟨cs', ⟨h1, h2⟩, hr⟩ := h
  rcases h2 with ⟨rfl, _⟩ | ⟨g', cap, cur, rfl, hg', hh, rest⟩
  · cases hk
  · have e : g' = k := by simpa [Value.ownBlock] using hk
    subst e
    rw [hg] at hh
    injection hh with hh
    injection hh with e1 e2
    exact hne e2.symm
def FlatPost (e0 : TypeId) (w : World) (L : List AtT) (e : Ending) (w' : World) : Prop := ∃ v, e = .returned v ∧ Own atK e0 w' w.heap.size (fun _ => False) v L ∧ Ext w w'
set_option maxRecDepth 8000 in
set_option maxHeartbeats 4000000 in
theorem Flat_calls (w : World) (A : Option Addr) (c : Nat) (l : List BtM) (hc : l.length ≤ c) (hm : c ≤ maxLen) (hl : l.length ≤ 1000) (hb : ∀ b ∈ l, b.l.length ≤ 1000 ∧ 0 ≤ b.base ∧ b.base ≤ 2199023255552) (hr : Row btM w (fun k => k < w.heap.size) A l) :
    Calls Try.prog 32 #[.slice A l.length c] w (FlatPost 56 w (flatL l)) := by
  have Hrow := Lib.hid (fun W (hE : Ext w W) => hr.belowF (fun _ h => h) hE)
  have hb1 : ∀ b ∈ l, b.l.length ≤ 1000 := fun b h => (hb b h).1
  clear hr
  go_enter Try.func32, Try.ntmps32
  go_upto_region 3 with fail
  go_loopw [3, 10] (fun v i wr => ∃ k : Nat, k ≤ l.length ∧ i = .int .i64 k ∧ Own atK 56 wr w.heap.size (fun _ => False) v (flatL (l.take k)) ∧ Ext w wr) (fun _ i _ => l.length - (intOf i).toNat)
  case atStart => exact ⟨0, Nat.zero_le _, rfl, by rw [List.take_zero]; exact Own.nil _ _ _ _ _, Ext.refl _⟩
  case round =>
    obtain ⟨k, hk, rfl, ho, hE⟩ := hrel
    by_cases hlt : k < l.length
    · have hlti : (k : Int) < (l.length : Int) := by omega
      obtain ⟨ad, A', c', rfl, hfa, hcl, hok, hlc, hrow⟩ := bt_at (Hrow.out wr hE) k hlt
      have hbb := hb _ (List.getElem_mem hlt)
      have Hsn := Lib.hid (flatL_snoc hlt)
      have hLl := flatL_le hl hb1 k
      have hLl2 := flatL_le hl hb1 (k + 1)
      have Hll2 := Lib.hid hLl2
      clear hLl2
      generalize l[k] = b at *
      generalize flatL (l.take k) = L at *
      obtain ⟨c0, c1, c2, c3, c4, c5, c6⟩ := hcl
      go_upto_region 5 with (refine gate_op (p := .store 24 (.tmp 5) (.tmp 13)) rfl ?_; go_must (refine put_row rfl 24 (.tmp 5) (.tmp 13) rfl wr.heap.size (btC b A' c') rfl rfl _ _ (one_new _ _).1 size_bt rfl (btC_one _ _ _) ?_; intro w5 hp5; have hE5 : Ext wr w5 := hp5.below (one_new _ _).2.1 (Nat.le_refl _); have H5 := Lib.hid (And.intro hE5 hp5.obj); clear hE5 hp5))
      clear c0 c1 c2 c3 c4 c5 c6
      obtain ⟨hE5, hj5⟩ := H5.out
      have Hmk := Lib.hid (mark_calls w5 b A' c')
      unfold btC at hj5 Hmk
      have k0 := (cell_of hj5 0).trans rfl
      have k1 := (cell_of hj5 1).trans rfl
      have k2 := (cell_of hj5 2).trans rfl
      have k3 := (cell_of hj5 3).trans rfl
      have k4 := (cell_of hj5 4).trans rfl
      have k5 := (cell_of hj5 5).trans rfl
      have k6 := (cell_of hj5 6).trans rfl
      go_wp2_with fail
      refine Hmk.out.mono ?_
      rintro e w6 ⟨rfl, hE6⟩
      clear k0 k1 k2 k3 k4 k5 k6
      have hs5 : wr.heap.size < w5.heap.size := (Array.getElem?_eq_some_iff.1 hj5).1
      have hj6 := (hE6.block wr.heap.size hs5).trans hj5
      have hE56 := Ext.trans _ _ _ hE5 hE6
      have hs6 := hE6.size
      have ho6 := ho.below hE56
      have hE6w := Ext.trans _ _ _ hE hE56
      have hrow6 := hrow.belowF (fun _ h => Nat.lt_of_lt_of_le h hE.size) hE56
      clear hj5 H5 hE5 hE6 hE56 Hmk ho hrow
      obtain ⟨mk, hmk⟩ : ∃ mk, mk = markB b := ⟨_, rfl⟩
      rw [← hmk]
      have HM := Lib.hid hmk
      clear hmk
      cases mk with
      | true =>
        have Hf2 := Lib.hid (show flatL (l.take (k + 1)) = L from by rw [Hsn.out]; unfold flat1; rw [if_pos HM.out.symm, List.append_nil])
        go_wp2
        go_roundw
        case rel => exact ⟨k + 1, hlt, by go_num, by rw [Hf2.out]; exact ho6, hE6w⟩
        case measure => simp [intOf]; omega
      | false =>
        have Hf2 := Lib.hid (show flatL (l.take (k + 1)) = L ++ numFrom b.base b.l from by rw [Hsn.out]; unfold flat1; rw [if_neg (by rw [← HM.out]; decide)])
        have k6 : w6.cell? ⟨wr.heap.size, 6, none⟩ = some (.slice A' b.l.length c') := (cell_of hj6 6).trans rfl
        have hl63 : b.l.length ≤ 1000 := hbb.1
        have hrow7 := hrow6
        have hwg : w.heap.size ≤ wr.heap.size := hE.size
        clear hE hrow6
        generalize wr.heap.size = g at *
        go_upto_region 7 with fail
        clear k6
        go_loopw [3, 19] (fun v i wr => ∃ j : Nat, j ≤ b.l.length ∧ i = .int .i64 j ∧ Own atK 56  wr w.heap.size (fun _ => False) v (L ++ numFrom b.base (b.l.take j)) ∧ wr.heap[g]? = some (.cells #[.int .i64 b.base, .int .i64 b.pid, .int .i64 b.epoch, .int .i64 b.seq, .int .i64 b.kind, .int .i64 b.time, .slice A' b.l.length c'] 24 (0, 0)) ∧ Below w.heap.size w6 wr) (fun _ i _ => b.l.length - (intOf i).toNat)
        case atStart => exact ⟨0, Nat.zero_le _, rfl, by rw [List.take_zero]; simpa [numFrom] using ho6, hj6, Below.refl _ _⟩
        case round =>
          obtain ⟨j, hj, rfl, hoi, hji, hBi⟩ := hrel
          by_cases hjt : j < b.l.length
          · have hjti : (j : Int) < (b.l.length : Int) := by omega
            obtain ⟨ar, rfl, hcc, hro⟩ := rec_at (hrow7.belowF (fun k hk => hk) hBi) j hjt
            have Hsj := Lib.hid (show numFrom b.base (b.l.take (j + 1)) = numFrom b.base (b.l.take j) ++ [(b.base + (j : Int), b.l[j])] from by
              rw [List.take_succ_eq_append_getElem hjt, numFrom_snoc, List.length_take, Nat.min_eq_left (by omega)])
            have hnl : (numFrom b.base (b.l.take j)).length ≤ 1000 := by rw [numFrom_len, List.length_take]; omega
            have hgw : g < wr.heap.size := (Array.getElem?_eq_some_iff.1 hji).1
            generalize numFrom b.base (b.l.take j) = N at *
            generalize b.l[j] = r at *
            obtain ⟨kk, vv, gg, tt⟩ := r
            obtain ⟨c0, c1, c2, c3⟩ := hcc
            simp only at c0 c1 c2 c3
            have hLN : (L ++ N).length ≤ 1001000 := by rw [List.length_append]; omega
            have Hassoc := Lib.hid (show L ++ numFrom b.base (b.l.take (j + 1)) = (L ++ N) ++ [(b.base + (j : Int), (kk, vv, gg, tt))] from by rw [Hsj.out, List.append_assoc])
            generalize L ++ N = LN at *
            go_upto_region 9 with (refine gate_op (p := .store 54 (.tmp 7) (.tmp 23)) rfl ?_; go_must (refine put_row rfl 54 (.tmp 7) (.tmp 23) rfl wr.heap.size #[.string kk, .string vv, .bool gg, .int .i64 tt] rfl rfl _ _ (one_new _ _).1 size_rec2 rfl (recC_one2 (kk, vv, gg, tt)) ?_; intro w8 hp8; have hE8 : Ext  wr w8 := hp8.below (one_new _ _).2.1 (Nat.le_refl _); have H8 := Lib.hid (And.intro hE8 (And.intro hp8.obj (hp8.size.trans (one_new _ _).2.2))); clear hE8 hp8))
            clear c0 c1 c2 c3
            obtain ⟨hE8, hj8, hs8⟩ := H8.out
            have hb0 : w8.cell? ⟨g, 0, none⟩ = some (.int .i64 b.base) := (cell_of ((hE8.block g hgw).trans hji) 0).trans rfl
            have r0 : w8.cell? ⟨wr.heap.size, 0, none⟩ = some (.string kk) := (cell_of hj8 0).trans rfl
            have r1 : w8.cell? ⟨wr.heap.size, 1, none⟩ = some (.string vv) := (cell_of hj8 1).trans rfl
            have r2 : w8.cell? ⟨wr.heap.size, 2, none⟩ = some (.bool gg) := (cell_of hj8 2).trans rfl
            have r3 : w8.cell? ⟨wr.heap.size, 3, none⟩ = some (.int .i64 tt) := (cell_of hj8 3).trans rfl
            have hob := hbb.2
            have Hkr := Lib.hid (fun W F => atK_mk W F (o := b.base + (j : Int)) (r := (kk, vv, gg, tt)) ⟨by omega, by omega⟩ (Nat.le_trans hro.key (by simp [maxLen])) (Nat.le_trans hro.val (by simp [maxLen])) hro.time)
            have ho8 := hoi.below hE8
            have Hlast := Lib.hid (And.intro ((hE8.block g hgw).trans hji) (And.intro (Below.trans hBi (Below.mono hE8 (by have := hBi.size; have := hE6w.size; omega))) hs8))
            clear hE8 hj8 hs8 H8 hoi hji
            go_wp2_with (at_builtin; go_must (refine app_onef atK flat_at w.heap.size rfl (.tmp 24) (.tmp 31) 49 56 56 rfl Try.underlying49 info_at u3 LN (b.base + (j : Int), (kk, vv, gg, tt)) w8.heap.size [.int .i64 (b.base + (j : Int)), .string kk, .string vv, .bool gg, .int .i64 tt] (fun _ => False) rfl rfl (ho8.alloc _) (boxedN (one_new w8 _).1) (Hkr.out _ _) (by omega) (by simp only [maxLen]; omega) (by simp; have := Hlast.out.2.2; have := hBi.size; have := hE6w.size; omega) ?_; intro v9 w9 ho9 hg9 ha9))
            have hsz6 := hE6w.size
            have hszB := hBi.size
            have hs8' := Hlast.out.2.2
            have hne := own_ne ho8 Hlast.out.1 (by decide)
            have hg2 := (hg9.block g (by simp; omega) (fun e => hne g e.symm rfl)).trans (((one_new w8 _).2.1.block g (by omega)).trans Hlast.out.1)
            have hB9 : Below w.heap.size w6 w9 := Below.grown (Below.alloc Hlast.out.2.1 (by omega) _) hg9 (by simp; omega) (fun k hk => (ho8.at hk).1)
            have Hfin := Lib.hid (And.intro ho9 (And.intro hg2 hB9))
            clear ho9 hg9 ha9 hg2 hB9 hne hs8'
            go_roundw
            case rel => exact ⟨j + 1, hjt, by go_num, by rw [Hassoc.out]; exact Hfin.out.1, Hfin.out.2.1, Hfin.out.2.2⟩
            case measure => simp [intOf]; omega
          · obtain rfl : j = b.l.length := by omega
            rw [List.take_length, ← Hf2.out] at hoi
            have hE9 : Ext w wr := Below.trans hE6w hBi
            have hnei : ¬ (b.l.length : Int) < (b.l.length : Int) := by omega
            clear hji
            go_wp2
            go_roundw
            case rel => exact ⟨k + 1, hlt, by go_num, hoi, hE9⟩
            case measure => simp [intOf]; omega
    · obtain rfl : k = l.length := by omega
      rw [List.take_length] at ho
      go_wp2
      go_ret
      exact ⟨_, rfl, ho, hE⟩
end Go.Proofs.Ytaomhedjamnloaa
