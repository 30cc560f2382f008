/- Contract: the document's Flat. -/
import Derived.Test.YtaomhedjamnloaaRecFl
import Derived.Test.YtaomhedjamnloaaRecH
set_option linter.unusedVariables false
set_option linter.unusedSimpArgs false
namespace Go.Proofs.Ytaomhedjamnloaa
open Go Go.RowKit

theorem info_rat : (Try.prog.info? 58).map (fun i => (i.zero.map (fun z => z.cells.size), i.size, i.bytes)) = some (some atK.sz, atK.sz, 56) := by kernel_rfl
def flatTo (b : BtM) (j : Nat) : List AtT := if markB b = true then [] else numFrom b.base (b.l.take j)
theorem flatTo_all (b : BtM) : flatTo b b.l.length = flat1 b := by unfold flatTo flat1; rw [List.take_length]
theorem flatTo_zero (b : BtM) : flatTo b 0 = [] := by unfold flatTo; rw [List.take_zero]; split <;> rfl
theorem flatTo_len (b : BtM) {j : Nat} : (flatTo b j).length ≤ b.l.length := by
  unfold flatTo
  split
  · exact Nat.zero_le _
  · rw [numFrom_len, List.length_take]; omega
theorem flatTo_mark {b : BtM} (h : markB b = true) (j : Nat) : flatTo b (j + 1) = flatTo b j := by unfold flatTo; rw [if_pos h, if_pos h]
theorem flatTo_snoc {b : BtM} (h : markB b = false) {j : Nat} (hj : j < b.l.length) : flatTo b (j + 1) = flatTo b j ++ [(b.base + (j : Int), b.l[j])] := by
  unfold flatTo
  rw [if_neg (by rw [h]; decide), if_neg (by rw [h]; decide), List.take_succ_eq_append_getElem hj, numFrom_snoc, List.length_take, Nat.min_eq_left (by omega)]
set_option maxRecDepth 8000 in
set_option maxHeartbeats 4000000 in
theorem Rflat_calls (w : World) (A : Option Addr) (c : Nat) (l : List BtM) (hc : l.length ≤ c) (hm : c ≤ maxLen) (hl : l.length ≤ 1000) (hb : ∀ b ∈ l, b.l.length ≤ 1000 ∧ 0 ≤ b.base ∧ b.base ≤ 2199023255552) (hr : Row btM w (fun k => k < w.heap.size) A l) :
    Calls Try.prog 33 #[.slice A l.length c] w (FlatPost 58 w (flatL l)) := by
  have Hrow := Lib.hid (fun W (hE : Ext w W) => hr.belowF (fun _ h => h) hE)
  have hb1 : ∀ b ∈ l, b.l.length ≤ 1000 := fun b h => (hb b h).1
  clear hr
  go_enter Try.func33, Try.ntmps33
  go_upto_region 3 with fail
  go_loopw [3, 10] (fun v i wr => ∃ k : Nat, k ≤ l.length ∧ i = .int .i64 k ∧ Own atK 58 wr w.heap.size (fun _ => False) v (flatL (l.take k)) ∧ Ext w wr) (fun _ i _ => l.length - (intOf i).toNat)
  case atStart => exact ⟨0, Nat.zero_le _, rfl, by rw [List.take_zero]; exact Own.nil _ _ _ _ _, Ext.refl _⟩
  case round =>
    obtain ⟨k, hk, rfl, ho, hE⟩ := hrel
    by_cases hlt : k < l.length
    · have hlti : (k : Int) < (l.length : Int) := by omega
      obtain ⟨ad, A', c', rfl, hfa, hcl, hok, hlc, hrow⟩ := bt_at (Hrow.out wr hE) k hlt
      have hbb := hb _ (List.getElem_mem hlt)
      have Hsn := Lib.hid (flatL_snoc hlt)
      have hLl := flatL_le hl hb1 k
      have hLl2 := flatL_le hl hb1 (k + 1)
      have Hll2 := Lib.hid hLl2
      clear hLl2
      generalize l[k] = b at *
      generalize flatL (l.take k) = L at *
      obtain ⟨c0, c1, c2, c3, c4, c5, c6⟩ := hcl
      go_upto_region 5 with (refine gate_op (p := .store 24 (.tmp 5) (.tmp 13)) rfl ?_; go_must (refine put_row rfl 24 (.tmp 5) (.tmp 13) rfl wr.heap.size (btC b A' c') rfl rfl _ _ (one_new _ _).1 size_bt rfl (btC_one _ _ _) ?_; intro w5 hp5; have hE5 : Ext wr w5 := hp5.below (one_new _ _).2.1 (Nat.le_refl _); have H5 := Lib.hid (And.intro hE5 hp5.obj); clear hE5 hp5))
      clear c0 c1 c2 c3 c4 c5 c6
      obtain ⟨hE5, hj5⟩ := H5.out
      have hs5 : wr.heap.size < w5.heap.size := (Array.getElem?_eq_some_iff.1 hj5).1
      have hE6w := Ext.trans _ _ _ hE hE5
      have ho6 := ho.below hE5
      have hrow5 := hrow.belowF (fun _ h => Nat.lt_of_lt_of_le h hE.size) hE5
      have Hmk := Lib.hid (fun W => Rmark_calls W b A' c')
      unfold btC at hj5 Hmk
      have hj6 := hj5
      have Hf2 := Lib.hid (show flatL (l.take (k + 1)) = L ++ flat1 b from Hsn.out)
      clear H5 hE5 ho hrow hj5
      have k6 : w5.cell? ⟨wr.heap.size, 6, none⟩ = some (.slice A' b.l.length c') := (cell_of hj6 6).trans rfl
      have hl63 : b.l.length ≤ 1000 := hbb.1
      have hrow7 := hrow5
      have hwg : w.heap.size ≤ wr.heap.size := hE.size
      clear hE hrow5
      generalize wr.heap.size = g at *
      go_upto_region 6 with fail
      clear k6
      go_loopw [3, 17] (fun v i wr => ∃ j : Nat, j ≤ b.l.length ∧ i = .int .i64 j ∧ Own atK 58  wr w.heap.size (fun _ => False) v (L ++ flatTo b j) ∧ wr.heap[g]? = some (.cells #[.int .i64 b.base, .int .i64 b.pid, .int .i64 b.epoch, .int .i64 b.seq, .int .i64 b.kind, .int .i64 b.time, .slice A' b.l.length c'] 24 (0, 0)) ∧ Below w.heap.size w5 wr) (fun _ i _ => b.l.length - (intOf i).toNat)
      case atStart => exact ⟨0, Nat.zero_le _, rfl, by rw [flatTo_zero, List.append_nil]; exact ho6, hj6, Below.refl _ _⟩
      case round =>
        obtain ⟨j, hj, rfl, hoi, hji, hBi⟩ := hrel
        by_cases hjt : j < b.l.length
        · have hjti : (j : Int) < (b.l.length : Int) := by omega
          obtain ⟨ar, rfl, hcc, hro⟩ := rec_at (hrow7.belowF (fun k hk => hk) hBi) j hjt
          have hnl := flatTo_len b (j := j)
          have hgw : g < wr.heap.size := (Array.getElem?_eq_some_iff.1 hji).1
          have Hsj1 := Lib.hid (fun h => flatTo_snoc (b := b) h hjt)
          have Hsj2 := Lib.hid (fun h => flatTo_mark (b := b) h j)
          generalize flatTo b j = N at *
          generalize b.l[j] = r at *
          obtain ⟨kk, vv, gg, tt⟩ := r
          obtain ⟨c0, c1, c2, c3⟩ := hcc
          simp only at c0 c1 c2 c3
          have hLN : (L ++ N).length ≤ 1001000 := by rw [List.length_append]; omega
          have Hassoc := Lib.hid (fun h => show L ++ flatTo b (j + 1) = (L ++ N) ++ [(b.base + (j : Int), (kk, vv, gg, tt))] from by rw [Hsj1.out h, List.append_assoc])
          have Hassoc2 := Lib.hid (fun h => show L ++ flatTo b (j + 1) = L ++ N from by rw [Hsj2.out h])
          generalize L ++ N = LN at *
          go_upto_region 8 with (refine gate_op (p := .store 54 (.tmp 7) (.tmp 21)) rfl ?_; go_must (refine put_row rfl 54 (.tmp 7) (.tmp 21) rfl wr.heap.size #[.string kk, .string vv, .bool gg, .int .i64 tt] rfl rfl _ _ (one_new _ _).1 size_rec2 rfl (recC_one2 (kk, vv, gg, tt)) ?_; intro w8 hp8; have hE8 : Ext  wr w8 := hp8.below (one_new _ _).2.1 (Nat.le_refl _); have H8 := Lib.hid (And.intro hE8 (And.intro hp8.obj (hp8.size.trans (one_new _ _).2.2))); clear hE8 hp8))
          clear c0 c1 c2 c3
          obtain ⟨hE8, hj8, hs8⟩ := H8.out
          have hg8 := (hE8.block g hgw).trans hji
          have k0 := (cell_of hg8 0).trans rfl
          have k1 := (cell_of hg8 1).trans rfl
          have k2 := (cell_of hg8 2).trans rfl
          have k3 := (cell_of hg8 3).trans rfl
          have k4 := (cell_of hg8 4).trans rfl
          have k5 := (cell_of hg8 5).trans rfl
          have k6 := (cell_of hg8 6).trans rfl
          go_wp2_with fail
          refine (Hmk.out _).mono ?_
          rintro e w81 ⟨rfl, hE81⟩
          clear k0 k1 k2 k3 k4 k5 k6
          have hgw8 : g < w8.heap.size := (Array.getElem?_eq_some_iff.1 hg8).1
          have hrw8 : wr.heap.size < w8.heap.size := (Array.getElem?_eq_some_iff.1 hj8).1
          have hg81 := (hE81.block g hgw8).trans hg8
          have hj81 := (hE81.block wr.heap.size hrw8).trans hj8
          have hE82 := Ext.trans _ _ _ hE8 hE81
          have hs81 := hE81.size
          clear hE8 hj8 H8 hji hg8 hE81
          have ho8 := hoi.below hE82
          have hB82 := Below.trans hBi (Below.mono hE82 (by have := hBi.size; have := hE6w.size; omega))
          have hsz6 := hE6w.size
          have hszB := hBi.size
          clear hoi hE82
          obtain ⟨mk, hmk⟩ : ∃ mk, mk = markB b := ⟨_, rfl⟩
          rw [← hmk]
          have HM := Lib.hid hmk
          clear hmk
          cases mk with
          | true =>
            go_wp2
            go_roundw
            case rel => exact ⟨j + 1, hjt, by go_num, by rw [Hassoc2.out HM.out.symm]; exact ho8, hg81, hB82⟩
            case measure => simp [intOf]; omega
          | false =>
            have hb0 : w81.cell? ⟨g, 0, none⟩ = some (.int .i64 b.base) := (cell_of hg81 0).trans rfl
            have r0 : w81.cell? ⟨wr.heap.size, 0, none⟩ = some (.string kk) := (cell_of hj81 0).trans rfl
            have r1 : w81.cell? ⟨wr.heap.size, 1, none⟩ = some (.string vv) := (cell_of hj81 1).trans rfl
            have r2 : w81.cell? ⟨wr.heap.size, 2, none⟩ = some (.bool gg) := (cell_of hj81 2).trans rfl
            have r3 : w81.cell? ⟨wr.heap.size, 3, none⟩ = some (.int .i64 tt) := (cell_of hj81 3).trans rfl
            have hob := hbb.2
            have Hkr := Lib.hid (fun W F => atK_mk W F (o := b.base + (j : Int)) (r := (kk, vv, gg, tt)) ⟨by omega, by omega⟩ (Nat.le_trans hro.key (by simp [maxLen])) (Nat.le_trans hro.val (by simp [maxLen])) hro.time)
            have Hlast := Lib.hid (And.intro hg81 (And.intro hB82 hs81))
            clear hg81 hB82 hj81
            go_wp2_with (at_builtin; go_must (refine app_onef atK flat_at w.heap.size rfl (.tmp 25) (.tmp 32) 51 58 56 rfl Try.underlying51 info_rat u3 LN (b.base + (j : Int), (kk, vv, gg, tt)) w81.heap.size [.int .i64 (b.base + (j : Int)), .string kk, .string vv, .bool gg, .int .i64 tt] (fun _ => False) rfl rfl (ho8.alloc _) (boxedN (one_new w81 _).1) (Hkr.out _ _) (by omega) (by simp only [maxLen]; omega) (by simp; omega) ?_; intro v9 w9 ho9 hg9 ha9))
            have hne := own_ne ho8 Hlast.out.1 (by decide)
            have hg2 := (hg9.block g (by simp; omega) (fun e => hne g e.symm rfl)).trans (((one_new w81 _).2.1.block g (by omega)).trans Hlast.out.1)
            have hB9 : Below w.heap.size w5 w9 := Below.grown (Below.alloc Hlast.out.2.1 (by omega) _) hg9 (by simp; omega) (fun k hk => (ho8.at hk).1)
            have Hfin := Lib.hid (And.intro ho9 (And.intro hg2 hB9))
            clear ho9 hg9 ha9 hg2 hB9 hne
            go_roundw
            case rel => exact ⟨j + 1, hjt, by go_num, by rw [Hassoc.out HM.out.symm]; exact Hfin.out.1, Hfin.out.2.1, Hfin.out.2.2⟩
            case measure => simp [intOf]; omega
        · obtain rfl : j = b.l.length := by omega
          rw [flatTo_all, ← Hf2.out] at hoi
          have hE9 : Ext w wr := Below.trans hE6w hBi
          have hnei : ¬ (b.l.length : Int) < (b.l.length : Int) := by omega
          clear hji
          go_wp2
          go_roundw
          case rel => exact ⟨k + 1, hlt, by go_num, hoi, hE9⟩
          case measure => simp [intOf]; omega
    · obtain rfl : k = l.length := by omega
      rw [List.take_length] at ho
      go_wp2
      go_ret
      exact ⟨_, rfl, ho, hE⟩
end Go.Proofs.Ytaomhedjamnloaa
