/- Contract: laid (under way). -/
import Derived.Test.YtklbbpicfhalcaaLaidM
set_option linter.unusedVariables false
set_option linter.unusedSimpArgs false
namespace Go.Proofs.Ytklbbpicfhalcaa
open Go Go.RowKit

/-- Whole numbers that are read. -/
theorem Row.num_at {k : IntKind} {w : World} {F : Nat → Prop} {A : Option Addr} {xs : List Int} (h : Row (num k) w F A xs) (i : Nat) (hi : i < xs.length) :
    ∃ ad, A = some ad ∧ w.cell? (ad.add i) = some (.int k xs[i]) := by
  obtain ⟨ad, u, e, _, hK, hc⟩ := h.at1 rfl i hi
  have : [u] = [.int k xs[i]] := hK.1
  exact ⟨ad, e, by rw [hc]; injection this with this; rw [this]⟩
theorem info_noted : (Try.prog.info? 38).map (fun i => (i.zero.map (fun z => z.cells.size), i.size, i.bytes)) = some (some 3, 3, 24) := by kernel_rfl
/-- A list of the call's own beside an index: no block in common. -/
def Apart (va v : Value) (g : Nat) : Prop := ∀ j, va.ownBlock = some j → j ≠ g ∧ v.ownBlock ≠ some j
theorem laid_fits (gap : Int) (hg : 0 ≤ gap ∧ gap ≤ 4194304) (sizes times : List Int) (k : Nat) (hk : k ≤ 80) : Fits (ixAt gap sizes times k) := by
  have h := laid_inv gap sizes times k
  refine ⟨by rw [h.gap]; exact hg, by have := h.len; omega, ?_⟩
  intro e he
  obtain ⟨i, hi, rfl⟩ := List.mem_iff_getElem.1 he
  obtain ⟨j, hj, _, e2, _⟩ := h.ents i hi
  have : (ixAt gap sizes times k).l.getD i z3 = (ixAt gap sizes times k).l[i] := by simp [hi]
  rw [this] at e2
  have := placeAt_le sizes j
  omega
/-- Each batch may be noted. -/
theorem laid_note (gap : Int) (sizes times : List Int) (k : Nat) (hk : k ≤ 80) : noteM (ixAt gap sizes times k) (3 * k : Nat) (placeAt sizes k : Nat) (timeAt times k : Nat) = (ixAt gap sizes times (k + 1), 0) := by
  have h := laid_inv gap sizes times k
  have h1 := placeAt_le sizes k
  have h2 := timeAt_lt times k
  unfold noteM
  have hm : mayM (3 * k : Nat) (placeAt sizes k : Nat) (timeAt times k : Nat) = true := by
    simp only [mayM, Bool.and_eq_true, decide_eq_true_eq]
    omega
  rw [if_pos hm, if_neg]
  · rfl
  · have h3 := h.off
    rcases h.place with ⟨h4, h5⟩ | ⟨h4, h5⟩
    · omega
    · have := placeAt_lt sizes (k - 1) k (by omega)
      omega
theorem alloc_size (w : World) (o : Obj) : (w.alloc o).heap.size = w.heap.size + 1 := by simp
theorem laid_app {w wc w4 : World} {o : Obj} {g : Nat} {v u va : Value} {x : IxM} (hE : Ext w wc) (hx : IxAt wc w.heap.size g v x) (hap : Apart u v g) (hob : ∀ j, u.ownBlock = some j → w.heap.size ≤ j) (hg : (wc.alloc o).grownBy w4 u.ownBlock)
    (ha : va.ownBlock = u.ownBlock ∨ va.ownBlock = some (wc.alloc o).heap.size) : IxAt w4 w.heap.size g v x ∧ Apart va v g ∧ Ext w w4 := by
  have hs := alloc_size wc o
  refine ⟨(hx.ext (Ext.alloc _ o)).move hg.size fun j hj => hg.block j ?_ ?_, ?_, ?_⟩
  · rcases hj with rfl | hj
    · have := hx.lt; omega
    · have := (hx.2.2.at hj).2; omega
  · intro e
    obtain ⟨h1, h2⟩ := hap j e.symm
    rcases hj with rfl | hj
    · exact h1 rfl
    · exact h2 hj
  · intro j hj
    rcases ha with e | e
    · exact hap j (e ▸ hj)
    · rw [e] at hj
      injection hj with hj
      have := hx.lt
      refine ⟨by omega, fun e2 => ?_⟩
      have := (hx.2.2.at e2).2
      omega
  · have hE2 := Ext.trans _ _ _ hE (Ext.alloc wc o)
    exact ⟨hg.os.trans hE2.os, hg.tape.trans hE2.tape, hg.output.trans hE2.output, Nat.le_trans hE2.size hg.size, fun k hk => (hg.block k (Nat.lt_of_lt_of_le hk hE2.size) (fun e => by have := hob k e.symm; omega)).trans (hE2.block k hk)⟩
theorem laid_noted {w w4 w5 : World} {g : Nat} {v v' va : Value} {x : IxM} {l : List (Int × Int × Int)} {e : TypeId} (hE : Ext w w4) (hx : IxAt w4 w.heap.size g v x) (hap : Apart va v g) (ho : Own ent e w4 w.heap.size (fun _ => False) va l)
    (hc : Chg g v.ownBlock w4 w5) (hv : v'.ownBlock = v.ownBlock ∨ ∃ k, v'.ownBlock = some k ∧ w4.heap.size ≤ k) : Own ent e w5 w.heap.size (fun _ => False) va l ∧ Apart va v' g ∧ Ext w w5 := by
  refine ⟨ho.move (fun k hk => hc.block k (ho.at hk).2 (hap k hk).1 (fun e => (hap k hk).2 e.symm)) fun _ h => h.elim, ?_, ?_⟩
  · intro j hj
    refine ⟨(hap j hj).1, fun e => ?_⟩
    rcases hv with hv | ⟨k, hv, hk⟩
    · exact (hap j hj).2 (hv ▸ e)
    · rw [hv] at e
      injection e with e
      have := (ho.at hj).2
      omega
  · exact Below.trans hE (hc.below hx.1 (fun k hk => (hx.2.2.at hk).1) hE.size)
def LaidPost (w : World) (gap : Int) (sizes times : List Int) (n : Nat) (e : Ending) (w' : World) : Prop :=
  ∃ g v va, e = .returned (.tuple #[.pointer (some ⟨g, 0, none⟩), va]) ∧ IxAt w' w.heap.size g v (ixAt gap sizes times n) ∧ Own ent 38 w' w.heap.size (fun _ => False) va (batches sizes times n) ∧ Apart va v g ∧ Ext w w'
set_option maxRecDepth 100000 in
set_option maxHeartbeats 8000000 in
theorem laid_calls (gap : Int) (A T : Option Addr) (ca ct : Nat) (sizes times : List Int) (w : World) (hs : sizes.length ≤ maxLen) (ht : times.length ≤ maxLen) (hA : Row (num .i64) w (fun k => k < w.heap.size) A sizes) (hT : Row (num .i64) w (fun k => k < w.heap.size) T times) :
    Calls Try.prog 15 #[.int .i64 gap, .slice A sizes.length ca, .slice T times.length ct] w (LaidPost w ((absM gap 300 : Nat) + 1) sizes times (min sizes.length 80)) := by
  have hgl := absM_lt gap 300 (by decide)
  have Hg := Lib.hid (gapped_calls gap w)
  generalize absM gap 300 = gp at *
  go_enter Try.func15, Try.ntmps15
  go_wp2_with fail
  refine Hg.out.mono ?_
  rintro e w' ⟨rfl, rfl⟩
  go_wp2_with fail
  refine (New_calls _ w (by unfold i64; omega)).mono ?_
  rintro e w1 (⟨h, _⟩ | ⟨hb1, hb2, g, rfl, hx, hE1⟩)
  · omega
  clear hb1 hb2
  go_wp2_with fail
  have hs63 : sizes.length ≤ 9223372036854775807 := by unfold maxLen at hs; omega
  have ht63 : times.length ≤ 9223372036854775807 := by unfold maxLen at ht; omega
  go_loopw [10, 11, 23] (fun v10 v11 i w' => ∃ k : Nat, k ≤ sizes.length ∧ k ≤ 80 ∧ i = .int .i64 k ∧ v11 = .int .i64 (placeAt sizes k : Nat) ∧ Own ent 38 w' w.heap.size (fun _ => False) v10 (batches sizes times k) ∧ (∃ v, IxAt w' w.heap.size g v (ixAt ((gp : Int) + 1) sizes times k) ∧ Apart v10 v g) ∧ Ext w w') (fun _ _ i _ => sizes.length - (intOf i).toNat)
  case atStart => exact ⟨0, by omega, by omega, rfl, rfl, Own.nil _ _ _ _ _, ⟨_, hx, fun j hj => by cases hj⟩, hE1⟩
  case round =>
    obtain ⟨k, hk, hk80, rfl, rfl, ho, ⟨v, hxk, hap⟩, hE⟩ := hrel
    by_cases hlt : k < sizes.length
    · obtain ⟨ad, hA1, hcell⟩ := (hA.belowF (fun _ h => h) hE).num_at k hlt
      by_cases h80 : k < 80
      · subst hA1
        have hsz : (sizes[k]).tmod 120 < 0 ∧ (sizes[k]).tmod 120 = -(sizeAt sizes k : Int) ∨ ¬ (sizes[k]).tmod 120 < 0 ∧ (sizes[k]).tmod 120 = (sizeAt sizes k : Int) := by
          have e : sizes.getD k 0 = sizes[k] := by simp [hlt]
          unfold sizeAt absM
          rw [e]
          by_cases h : (sizes[k]).tmod 120 < 0
          · exact .inl ⟨h, by show _ = -((((sizes[k]).tmod 120).natAbs : Nat) : Int); omega⟩
          · exact .inr ⟨h, by show _ = ((((sizes[k]).tmod 120).natAbs : Nat) : Int); omega⟩
        have Hsz := Lib.hid hsz
        clear hsz
        generalize sizes[k] = sk at *
        have Hrest := Lib.hid (And.intro hA (And.intro hT (And.intro hxk (And.intro ho hap))))
        clear hA hT hxk ho hap hs ht
        go_upto_if 33 with fail
        have hsl := sizeAt_lt sizes k
        go_cut [13] (fun v wx => v = .int .i64 (sizeAt sizes k : Nat) ∧ wx = wr)
        case first =>
          generalize sizeAt sizes k = q at *
          rcases Hsz.out with ⟨h1, h2⟩ | ⟨h1, h2⟩
          · go_wp2
            go_meet
            exact ⟨by simp [h2], rfl⟩
          · go_wp2
            go_meet
            exact ⟨by simp [h2], rfl⟩
        case rest =>
          obtain ⟨rfl, rfl⟩ := hcut
          clear Hsz
          have htl := timeAt_lt times k
          go_upto_if 39 with fail
          go_cut [14] (fun v wx => v = .int .i64 (timeAt times k : Nat) ∧ wx = wc)
          case first =>
            by_cases hkt : k < times.length
            · obtain ⟨hA, hT, _⟩ := Hrest.out
              obtain ⟨at_, hT1, hcell2⟩ := (hT.belowF (fun _ h => h) hE).num_at k hkt
              have hsz : (times[k]).tmod 1000 < 0 ∧ (times[k]).tmod 1000 = -(timeAt times k : Int) ∨ ¬ (times[k]).tmod 1000 < 0 ∧ (times[k]).tmod 1000 = (timeAt times k : Int) := by
                have e : times.getD k 0 = times[k] := by simp [hkt]
                unfold timeAt absM
                rw [if_pos hkt, e]
                by_cases h : (times[k]).tmod 1000 < 0
                · exact .inl ⟨h, by show _ = -((((times[k]).tmod 1000).natAbs : Nat) : Int); omega⟩
                · exact .inr ⟨h, by show _ = ((((times[k]).tmod 1000).natAbs : Nat) : Int); omega⟩
              have Hsz := Lib.hid hsz
              clear hsz hA hT
              subst hT1
              generalize times[k] = tk at *
              generalize timeAt times k = q at *
              rcases Hsz.out with ⟨h1, h2⟩ | ⟨h1, h2⟩
              · go_wp2
                go_meet
                exact ⟨by simp [h2], rfl⟩
              · go_wp2
                go_meet
                exact ⟨by simp [h2], rfl⟩
            · have ht0 : timeAt times k = 0 := if_neg hkt
              go_wp2
              go_meet
              exact ⟨by rw [ht0]; rfl, rfl⟩
          case rest =>
            obtain ⟨rfl, rfl⟩ := hcut
            obtain ⟨hA, hT, hxk, ho, hap⟩ := Hrest.out
            have hpl := placeAt_le sizes k
            have Hst := Lib.hid (show placeAt sizes (k + 1) = placeAt sizes k + (sizeAt sizes k + 1) from rfl)
            have Hbs := Lib.hid (batches_snoc sizes times k)
            have Hbl := Lib.hid (batches_len sizes times k)
            have Hby := Lib.hid (show ent.K wc (fun _ => False) (batchAt sizes times k) [.int .i64 (3 * (k : Int)), .int .i64 (placeAt sizes k : Nat), .int .i64 (timeAt times k : Nat)] by
              show _ = _
              simp [batchAt])
            have hgl := hxk.lt
            have hfit := laid_fits ((gp : Int) + 1) (by omega) sizes times k hk80
            have hnote := laid_note ((gp : Int) + 1) sizes times k hk80
            have h3k : (((3 * k : Nat)) : Int) = 3 * (k : Int) := by omega
            rw [h3k] at hnote
            have Hnote := Lib.hid hnote
            have hE0 := hE.size
            clear hnote h3k Hrest hA hT
            generalize placeAt sizes k = pl at *
            generalize timeAt times k = tm at *
            generalize sizeAt sizes k = sz at *
            generalize batches sizes times k = bs at *
            generalize ixAt ((gp : Int) + 1) sizes times k = xk at *
            have Hrest := Lib.hid (And.intro hxk (And.intro hap hfit))
            clear hxk hap hfit
            go_wp2_with (at_builtin; go_must (refine app_onef ent flat_ent w.heap.size rfl (.tmp 49) (.tmp 55) 34 38 24 rfl Try.underlying34 info_noted u10 bs (batchAt sizes times k) wc.heap.size [.int .i64 (3 * (k : Int)), .int .i64 (pl : Nat), .int .i64 (tm : Nat)] (fun _ => False) rfl rfl (ho.alloc _) (boxed_cells (heap_alloc_new _ _)) Hby.out (by have := Hbl.out; omega) (by simp only [maxLen]; have := Hbl.out; omega) (by simp; omega) ?_; intro va w4 ho4 hg4 ha4))
            obtain ⟨hx4, hap4, hE4⟩ := laid_app hE Hrest.out.1 Hrest.out.2.1 (fun j hj => (ho.at hj).1) hg4 ha4
            have hfit := Hrest.out.2.2
            have hsz4 := hE4.size
            refine (Note_calls w4 w.heap.size g v xk hx4 hfit hsz4 _ _ _).mono ?_
            rintro e w5 ⟨v', he, hx5, hc5, hv5⟩
            rw [Hnote.out] at he hx5
            subst he
            obtain ⟨ho5, hap5, hE5⟩ := laid_noted hE4 hx4 hap4 ho4 hc5 hv5
            clear hc5 hv5 hx4 hap4 ho4 hg4 ha4 Hrest ho
            go_wp2
            go_roundw
            case rel => exact ⟨k + 1, by omega, by omega, by rw [Int.natCast_succ], by rw [Hst.out]; push_cast; rfl, Hbs.out ▸ ho5, ⟨v', hx5, hap5⟩, hE5⟩
            case measure =>
              have e1 : intOf (Value.int .i64 ((k : Int) + 1)) = (k : Int) + 1 := rfl
              have e2 : intOf (Value.int .i64 (k : Int)) = (k : Int) := rfl
              rw [e1, e2]
              omega
      · have hk80' : k = min sizes.length 80 := by omega
        subst hA1
        have Hfin := Lib.hid (And.intro hxk (And.intro ho (And.intro hap (And.intro hE hk80'))))
        clear hA hT hxk ho hap hs ht hk80'
        go_wp2
        go_ret2
        obtain ⟨h1, h2, h3, h4, h5⟩ := Hfin.out
        rw [← h5]
        exact ⟨g, v, u10, rfl, h1, h2, h3, h4⟩
    · obtain rfl : k = sizes.length := by omega
      have hk80' : sizes.length = min sizes.length 80 := by omega
      have Hfin := Lib.hid (And.intro hxk (And.intro ho (And.intro hap (And.intro hE hk80'))))
      clear hA hT hxk ho hap hs ht hk80'
      go_wp2
      go_ret2
      obtain ⟨h1, h2, h3, h4, h5⟩ := Hfin.out
      rw [← h5]
      exact ⟨g, v, u10, rfl, h1, h2, h3, h4⟩
end Go.Proofs.Ytklbbpicfhalcaa
