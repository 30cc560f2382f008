/- Contract: read: what was told is read again. -/
import Derived.Test.YtjmeoaookpnknaaWBackLaw
import Derived.Test.YtjmeoaookpnknaaWSame
import Derived.Test.YtjmeoaookpnknaaRegion6
set_option linter.unusedVariables false
set_option linter.unusedSimpArgs false
namespace Go.Proofs.Ytjmeoaookpnknaa
open Go Go.RowKit

/-- A reader's block. -/
def rdObj (A : Option Addr) (c : Nat) (x : RdM) : Obj := .cells #[.slice A x.bs.length c, .int .i64 x.pos, .int .i64 x.err] 72 (0, 0)
theorem RdAt.chs {cs : List (Nat × Obj)} {w W : World} {B g : Nat} {A : Option Addr} {c : Nat} {x : RdM} (h : RdAt w B g A c x) (hE : Chs cs w W) (hg : W.heap[g]? = some (rdObj A c x)) (hA : ∀ a, A = some a → ∀ c ∈ cs, c.1 ≠ a.block) : RdAt W B g A c x :=
  h.move hE.size fun k hk hor => by
    rcases hor with rfl | ⟨a, ha, rfl⟩
    · exact hg.trans h.obj.symm
    · exact hE.block _ hk (hA a ha)
/-- A reader's call changes its own block alone. -/
theorem Chs.rd {W W' : World} {B g : Nat} {A : Option Addr} {c : Nat} {y : RdM} (hm : Mut g W W') (h : RdAt W' B g A c y) : Chs [(g, rdObj A c y)] W W' :=
  Chs.mut (C := rdObj A c y) hm.os hm.tape hm.output hm.size hm.block h.obj (by simp) (by simp)
def ReadPost (w : World) (B g : Nat) (A : Option Addr) (c : Nat) (y : RdM) (e : Ending) (w' : World) : Prop := e = .returned (.bool true) ∧ RdAt w' B g A c y ∧ Mut g w w'
theorem Chs.toMut {g : Nat} {C : Obj} {w w' : World} (h : Chs [(g, C)] w w') : Mut g w w' := ⟨h.os, h.tape, h.output, h.size, fun k hk hg => h.block k hk (by simp; omega)⟩
theorem RdAt.fin {w W : World} {B g : Nat} {A : Option Addr} {c : Nat} {x y : RdM} (h : RdAt w B g A c x) (hE : Mut g w W) (hb : y.bs = x.bs) (hp : y.pos ≤ x.bs.length) (hg : W.heap[g]? = some (rdObj A c y)) : RdAt W B g A c y := by
  obtain ⟨yb, yp, ye⟩ := y
  cases hb
  exact h.upd hE yp ye hg hp
set_option maxRecDepth 100000 in
set_option maxHeartbeats 8000000 in
theorem read_calls (w : World) (B g : Nat) (A : Option Addr) (c : Nat) (bs : List UInt8) (pos : Nat) (h : RdAt w B g A c ⟨bs, pos, 0⟩) (x : ItM) (Al : Option Addr) (cl : Nat) (Ai : Option Addr) (ci : Nat) (hit : ItAt w w.heap.size x Al cl Ai ci) (hl : Row str w (fun k => k < w.heap.size ∧ k ≠ g) Al x.l) (hi : Row (num .i64) w (fun k => k < w.heap.size ∧ k ≠ g) Ai x.i) (hsh : Short x) (ht : toldB x = true) (r : List UInt8) (hd : bs.drop pos = tellM x ++ r) :
    Calls Try.prog 22 #[.pointer (some ⟨g, 0, none⟩), .agg (itC x Al cl Ai ci)] w (ReadPost w B g A c ⟨bs, pos + (tellM x).length, 0⟩) := by
  have hok := hit.ok
  have hp := h.pos
  have hii : ∀ a ∈ x.i, -9223372036854775808 ≤ a ∧ a ≤ 9223372036854775807 := by
    intro a ha
    obtain ⟨k, hk, rfl⟩ := List.mem_iff_getElem.1 ha
    obtain ⟨_, _, _, hwf⟩ := hit.i.num_at' k hk
    exact i64_of_wf hwf
  have hs63 : x.s.size ≤ 9223372036854775807 := by have := hsh.s; omega
  have hl63 : x.l.length ≤ maxLen := by have := hsh.l.1; simp only [maxLen]; omega
  have hi63 : x.i.length ≤ maxLen := by have := hsh.i; simp only [maxLen]; omega
  have hE0 := Ext.alloc w (.cells (itC x Al cl Ai ci) 33)
  have hsz := hE0.size
  have hp0 := heap_alloc_new w (.cells (itC x Al cl Ai ci) 33)
  have hgl := h.lt
  have Hrd := Lib.hid (h.ext hE0)
  generalize hw0 : w.alloc (.cells (itC x Al cl Ai ci) 33) = w0 at *
  have hcell := fun W (hE : Mut g w0 W) (k : Nat) => cell_at ((hE.block _ (Array.getElem?_eq_some_iff.1 hp0).1 (by omega)).trans hp0) k
  have Hcell := Lib.hid hcell
  have Hrl := Lib.hid (fun W (hE : Mut g w0 W) => (hl.move (w' := W) fun k hk => (hE.block k (by omega) hk.2).trans (hE0.block k hk.1)))
  have Hri := Lib.hid (fun W (hE : Mut g w0 W) => (hi.move (w' := W) fun k hk => (hE.block k (by omega) hk.2).trans (hE0.block k hk.1)))
  have hm0 : Mut g w w0 := Mut.of hE0
  have Hfin := Lib.hid (fun W (y : RdM) (hE : Mut g w0 W) (hb : y.bs = bs) (hp : y.pos ≤ bs.length) (hg : W.heap[g]? = some (rdObj A c y)) => (⟨rfl, Hrd.out.fin hE hb hp hg, hm0.trans hE⟩ : ReadPost w B g A c y (.returned (.bool true)) W))
  have hfar := fun a (ha : A = some a) => (Hrd.out.far a ha).2.1
  have Hst := Lib.hid (fun W (C : Obj) (hE : Chs [(g, C)] w0 W) (hn : W.heap[g]? = some (rdObj A c ⟨bs, pos, 0⟩)) => Hrd.out.chs hE hn (fun a ha c hc => by rw [List.mem_singleton.1 hc]; exact fun e => hfar a ha e.symm))
  clear hcell hfar hE0 hm0
  have hk6 : 0 ≤ x.kind ∧ x.kind ≤ 5 := of_decide_eq_true ht
  obtain ⟨xkind, xu, xn, xm, xs, xon, xl, xi⟩ := x
  simp only at *
  rcases (show xkind = 0 ∨ xkind = 1 ∨ xkind = 2 ∨ xkind = 3 ∨ xkind = 4 ∨ xkind = 5 by omega) with rfl | rfl | rfl | rfl | rfl | rfl
  · have e0 : tellM ⟨0, xu, xn, xm, xs, xon, xl, xi⟩ = encN xu := rfl
    rw [e0] at hd ⊢
    have hlaw := UintR_enc hd hok.u
    have hple := drop_len hd hp
    have Hc := Lib.hid (fun W (h0 : RdAt W B g A c ⟨bs, pos, 0⟩) => rdUint_calls W B g A c _ h0)
    rw [show UintR ⟨bs, pos, 0⟩ = _ from hlaw] at Hc
    generalize hq : pos + (encN xu).length = pos2 at *
    clear hlaw hd e0 hq
    have Hcl := Lib.hid (fun W (hE : Mut g w0 W) => (Hcell.out W hE 1).trans (show (itC ⟨0, xu, xn, xm, xs, xon, xl, xi⟩ Al cl Ai ci)[1]? = some (.int .u64 xu) from rfl))
    have hck := (Hcell.out w0 (Mut.refl _ _) 0).trans (show (itC ⟨0, xu, xn, xm, xs, xon, xl, xi⟩ Al cl Ai ci)[0]? = some (.int .i64 0) from rfl)
    clear Hcell hit hl hi hp0 hii
    unfold itC at *
    simp only at hw0
    go_enter Try.func22, Try.ntmps22
    go_wp2_with fail
    refine wp_region_stepsC (Holds [(1, g, rdObj A c ⟨bs, pos, 0⟩)]) (Chs [(g, rdObj A c ⟨bs, pos2, 0⟩)]) (Chs.refl [(g, rdObj A c ⟨bs, pos2, 0⟩)]) (Chs.trans [(g, rdObj A c ⟨bs, pos2, 0⟩)]) (Chs.drew [(g, rdObj A c ⟨bs, pos2, 0⟩)]) [.eq (.pointer (some ⟨g, 0, none⟩)), .eqd (.int .u64 xu) (g, rdObj A c ⟨bs, pos2, 0⟩) (by simp), .eq (.pointer (some ⟨w.heap.size, 1, none⟩)), .eq (.int .u64 xu), .eq (.bool true), .eq (.bool true)] (by kernel_rfl) (holds_start (holds_cons Hrd.out.obj (holds_nil _))) (by kernel_rfl) (fun j o' hj hd v v' w h => (none_not (by kernel_rfl) hj hd).elim) ?_ ?_
    · refine ⟨?_, ?_, ?_, ?_, ?_, ?_, trivial⟩
      · intro S W K hE hn hf hd hK
        have f0 : S.tmps.getD 0 undef = .pointer (some ⟨g, 0, none⟩) := hf 0 (by kernel_rfl)
        refine want_free rfl ?_
        rw [Array.getD_eq_getD_getElem?] at f0
        go_simp
        exact hK _ _ (Chs.refl [(g, rdObj A c ⟨bs, pos2, 0⟩)] _) (fun _ _ h => h) (rfl)
      · intro S W K hE hn hf hd hK
        have hn : W.heap[g]? = some (rdObj A c ⟨bs, pos, 0⟩) := hn (1, g, rdObj A c ⟨bs, pos, 0⟩) (by simp) rfl
        have d9 : S.tmps.getD 9 undef = (.pointer (some ⟨g, 0, none⟩)) := hd 0 _ rfl (by kernel_rfl)
        refine want_free rfl ?_
        rw [Array.getD_eq_getD_getElem?] at d9
        go_simp
        refine (Hc.out W (Hst.out W _ hE hn)).mono ?_
        rintro e W' ⟨rfl, hr2, hm2⟩
        exact hK _ _ (Chs.rd hm2 hr2) (Holds.mut hm2.block (by simp)) ⟨rfl, hr2.obj⟩
      · intro S W K hE hn hf hd hK
        have f3 : S.tmps.getD 3 undef = .pointer (some ⟨w.heap.size, 0, none⟩) := hf 3 (by kernel_rfl)
        refine want_free rfl ?_
        rw [Array.getD_eq_getD_getElem?] at f3
        go_simp
        exact hK _ _ (Chs.refl [(g, rdObj A c ⟨bs, pos2, 0⟩)] _) (fun _ _ h => h) (rfl)
      · intro S W K hE hn hf hd hK
        have d11 : S.tmps.getD 11 undef = (.pointer (some ⟨w.heap.size, 1, none⟩)) := hd 2 _ rfl (by kernel_rfl)
        refine want_free rfl ?_
        rw [Array.getD_eq_getD_getElem?] at d11
        have hcl := Hcl.out W hE.toMut
        go_simp
        exact hK _ _ (Chs.refl _ _) (fun _ _ h => h) rfl
      · intro S W K hE hn hf hd hK
        have m10 := (hd 1 _ rfl (by kernel_rfl)).2
        have d10 : S.tmps.getD 10 undef = (.int .u64 xu) := (hd 1 _ rfl (by kernel_rfl)).1
        have d12 : S.tmps.getD 12 undef = (.int .u64 xu) := hd 3 _ rfl (by kernel_rfl)
        refine want_free rfl ?_
        rw [Array.getD_eq_getD_getElem?] at d10 d12
        go_simp
        exact hK _ _ (Chs.refl _ _) (fun _ _ h => h) (by first | rfl | simp)
      · intro S W K hE hn hf hd hK
        have d13 : S.tmps.getD 13 undef = (.bool true) := hd 4 _ rfl (by kernel_rfl)
        refine want_free rfl ?_
        rw [Array.getD_eq_getD_getElem?] at d13
        go_simp
        exact hK _ _ (Chs.refl [(g, rdObj A c ⟨bs, pos2, 0⟩)] _) (fun _ _ h => h) (rfl)
    · intro vs W hE hV
      have v0 : vs 0 = (.pointer (some ⟨g, 0, none⟩)) := hV 0 _ rfl
      have v1 := hV 1 _ rfl
      have e1 : vs 1 = (.int .u64 xu) := v1.1
      have v2 : vs 2 = (.pointer (some ⟨w.heap.size, 1, none⟩)) := hV 2 _ rfl
      have v3 : vs 3 = (.int .u64 xu) := hV 3 _ rfl
      have v4 : vs 4 = (.bool true) := hV 4 _ rfl
      have v5 : vs 5 = (.bool true) := hV 5 _ rfl
      clear hV
      set_option maxRecDepth 100000 in simp only [putAll, List.map_cons, List.map_nil, List.length_cons, List.length_nil, Nat.reduceAdd, List.range_succ, List.range_zero, List.nil_append, List.cons_append]
      set_option maxRecDepth 100000 in go_simp
      have hfin := Hfin.out W ⟨bs, pos2, 0⟩ hE.toMut rfl hple v1.2
      go_wp2
      go_ret
      exact ⟨rfl, hfin.2⟩
  · have e0 : tellM ⟨1, xu, xn, xm, xs, xon, xl, xi⟩ = encN (zig xn) := rfl
    rw [e0] at hd ⊢
    have hlaw := IntR_enc hd hok.n
    have hple := drop_len hd hp
    have Hc := Lib.hid (fun W (h0 : RdAt W B g A c ⟨bs, pos, 0⟩) => rdInt_calls W B g A c _ h0)
    rw [show IntR ⟨bs, pos, 0⟩ = _ from hlaw] at Hc
    generalize hq : pos + (encN (zig xn)).length = pos2 at *
    clear hlaw hd e0 hq
    have Hcl := Lib.hid (fun W (hE : Mut g w0 W) => (Hcell.out W hE 2).trans (show (itC ⟨1, xu, xn, xm, xs, xon, xl, xi⟩ Al cl Ai ci)[2]? = some (.int .i64 xn) from rfl))
    have hck := (Hcell.out w0 (Mut.refl _ _) 0).trans (show (itC ⟨1, xu, xn, xm, xs, xon, xl, xi⟩ Al cl Ai ci)[0]? = some (.int .i64 1) from rfl)
    clear Hcell hit hl hi hp0 hii
    unfold itC at *
    simp only at hw0
    go_enter Try.func22, Try.ntmps22
    go_wp2_with fail
    refine wp_region_stepsC (Holds [(1, g, rdObj A c ⟨bs, pos, 0⟩)]) (Chs [(g, rdObj A c ⟨bs, pos2, 0⟩)]) (Chs.refl [(g, rdObj A c ⟨bs, pos2, 0⟩)]) (Chs.trans [(g, rdObj A c ⟨bs, pos2, 0⟩)]) (Chs.drew [(g, rdObj A c ⟨bs, pos2, 0⟩)]) [.eq (.pointer (some ⟨g, 0, none⟩)), .eqd (.int .i64 xn) (g, rdObj A c ⟨bs, pos2, 0⟩) (by simp), .eq (.pointer (some ⟨w.heap.size, 2, none⟩)), .eq (.int .i64 xn), .eq (.bool true), .eq (.bool true)] (by kernel_rfl) (holds_start (holds_cons Hrd.out.obj (holds_nil _))) (by kernel_rfl) (fun j o' hj hd v v' w h => (none_not (by kernel_rfl) hj hd).elim) ?_ ?_
    · refine ⟨?_, ?_, ?_, ?_, ?_, ?_, trivial⟩
      · intro S W K hE hn hf hd hK
        have f0 : S.tmps.getD 0 undef = .pointer (some ⟨g, 0, none⟩) := hf 0 (by kernel_rfl)
        refine want_free rfl ?_
        rw [Array.getD_eq_getD_getElem?] at f0
        go_simp
        exact hK _ _ (Chs.refl [(g, rdObj A c ⟨bs, pos2, 0⟩)] _) (fun _ _ h => h) (rfl)
      · intro S W K hE hn hf hd hK
        have hn : W.heap[g]? = some (rdObj A c ⟨bs, pos, 0⟩) := hn (1, g, rdObj A c ⟨bs, pos, 0⟩) (by simp) rfl
        have d16 : S.tmps.getD 16 undef = (.pointer (some ⟨g, 0, none⟩)) := hd 0 _ rfl (by kernel_rfl)
        refine want_free rfl ?_
        rw [Array.getD_eq_getD_getElem?] at d16
        go_simp
        refine (Hc.out W (Hst.out W _ hE hn)).mono ?_
        rintro e W' ⟨rfl, hr2, hm2⟩
        exact hK _ _ (Chs.rd hm2 hr2) (Holds.mut hm2.block (by simp)) ⟨rfl, hr2.obj⟩
      · intro S W K hE hn hf hd hK
        have f3 : S.tmps.getD 3 undef = .pointer (some ⟨w.heap.size, 0, none⟩) := hf 3 (by kernel_rfl)
        refine want_free rfl ?_
        rw [Array.getD_eq_getD_getElem?] at f3
        go_simp
        exact hK _ _ (Chs.refl [(g, rdObj A c ⟨bs, pos2, 0⟩)] _) (fun _ _ h => h) (rfl)
      · intro S W K hE hn hf hd hK
        have d18 : S.tmps.getD 18 undef = (.pointer (some ⟨w.heap.size, 2, none⟩)) := hd 2 _ rfl (by kernel_rfl)
        refine want_free rfl ?_
        rw [Array.getD_eq_getD_getElem?] at d18
        have hcl := Hcl.out W hE.toMut
        go_simp
        exact hK _ _ (Chs.refl _ _) (fun _ _ h => h) rfl
      · intro S W K hE hn hf hd hK
        have m17 := (hd 1 _ rfl (by kernel_rfl)).2
        have d17 : S.tmps.getD 17 undef = (.int .i64 xn) := (hd 1 _ rfl (by kernel_rfl)).1
        have d19 : S.tmps.getD 19 undef = (.int .i64 xn) := hd 3 _ rfl (by kernel_rfl)
        refine want_free rfl ?_
        rw [Array.getD_eq_getD_getElem?] at d17 d19
        go_simp
        exact hK _ _ (Chs.refl _ _) (fun _ _ h => h) (by first | rfl | simp)
      · intro S W K hE hn hf hd hK
        have d20 : S.tmps.getD 20 undef = (.bool true) := hd 4 _ rfl (by kernel_rfl)
        refine want_free rfl ?_
        rw [Array.getD_eq_getD_getElem?] at d20
        go_simp
        exact hK _ _ (Chs.refl [(g, rdObj A c ⟨bs, pos2, 0⟩)] _) (fun _ _ h => h) (rfl)
    · intro vs W hE hV
      have v0 : vs 0 = (.pointer (some ⟨g, 0, none⟩)) := hV 0 _ rfl
      have v1 := hV 1 _ rfl
      have e1 : vs 1 = (.int .i64 xn) := v1.1
      have v2 : vs 2 = (.pointer (some ⟨w.heap.size, 2, none⟩)) := hV 2 _ rfl
      have v3 : vs 3 = (.int .i64 xn) := hV 3 _ rfl
      have v4 : vs 4 = (.bool true) := hV 4 _ rfl
      have v5 : vs 5 = (.bool true) := hV 5 _ rfl
      clear hV
      set_option maxRecDepth 100000 in simp only [putAll, List.map_cons, List.map_nil, List.length_cons, List.length_nil, Nat.reduceAdd, List.range_succ, List.range_zero, List.nil_append, List.cons_append]
      set_option maxRecDepth 100000 in go_simp
      have hfin := Hfin.out W ⟨bs, pos2, 0⟩ hE.toMut rfl hple v1.2
      go_wp2
      go_ret
      exact ⟨rfl, hfin.2⟩
  · have e0 : tellM ⟨2, xu, xn, xm, xs, xon, xl, xi⟩ = encT xs := rfl
    rw [e0] at hd ⊢
    have hlaw := TextR_enc hd hp (Int.le_refl _) (by omega)
    have hple := drop_len hd hp
    have Hc := Lib.hid (fun W (h0 : RdAt W B g A c ⟨bs, pos, 0⟩) => rdText_calls W B g A c _ h0 xs.size (by omega))
    rw [show TextR ⟨bs, pos, 0⟩ xs.size = _ from hlaw] at Hc
    generalize hq : pos + (encT xs).length = pos2 at *
    clear hlaw hd e0 hq
    have Hcl := Lib.hid (fun W (hE : Mut g w0 W) => (Hcell.out W hE 4).trans (show (itC ⟨2, xu, xn, xm, xs, xon, xl, xi⟩ Al cl Ai ci)[4]? = some (.string xs) from rfl))
    have hck := (Hcell.out w0 (Mut.refl _ _) 0).trans (show (itC ⟨2, xu, xn, xm, xs, xon, xl, xi⟩ Al cl Ai ci)[0]? = some (.int .i64 2) from rfl)
    clear Hcell hit hl hi hp0 hii
    unfold itC at *
    simp only at hw0
    go_enter Try.func22, Try.ntmps22
    go_wp2_with fail
    refine wp_region_stepsC (Holds [(4, g, rdObj A c ⟨bs, pos, 0⟩)]) (Chs [(g, rdObj A c ⟨bs, pos2, 0⟩)]) (Chs.refl [(g, rdObj A c ⟨bs, pos2, 0⟩)]) (Chs.trans [(g, rdObj A c ⟨bs, pos2, 0⟩)]) (Chs.drew [(g, rdObj A c ⟨bs, pos2, 0⟩)]) [.eq (.pointer (some ⟨g, 0, none⟩)), .eq (.pointer (some ⟨w.heap.size, 4, none⟩)), .eq (.string xs), .eq (.int .i64 xs.size), .eqd (.string xs) (g, rdObj A c ⟨bs, pos2, 0⟩) (by simp), .eq (.pointer (some ⟨w.heap.size, 4, none⟩)), .eq (.string xs), .eq (.bool true), .eq (.bool true)] (by kernel_rfl) (holds_start (holds_cons Hrd.out.obj (holds_nil _))) (by kernel_rfl) (fun j o' hj hd v v' w h => (none_not (by kernel_rfl) hj hd).elim) ?_ ?_
    · refine ⟨?_, ?_, ?_, ?_, ?_, ?_, ?_, ?_, ?_, trivial⟩
      · intro S W K hE hn hf hd hK
        have f0 : S.tmps.getD 0 undef = .pointer (some ⟨g, 0, none⟩) := hf 0 (by kernel_rfl)
        refine want_free rfl ?_
        rw [Array.getD_eq_getD_getElem?] at f0
        go_simp
        exact hK _ _ (Chs.refl [(g, rdObj A c ⟨bs, pos2, 0⟩)] _) (fun _ _ h => h) (rfl)
      · intro S W K hE hn hf hd hK
        have f3 : S.tmps.getD 3 undef = .pointer (some ⟨w.heap.size, 0, none⟩) := hf 3 (by kernel_rfl)
        refine want_free rfl ?_
        rw [Array.getD_eq_getD_getElem?] at f3
        go_simp
        exact hK _ _ (Chs.refl [(g, rdObj A c ⟨bs, pos2, 0⟩)] _) (fun _ _ h => h) (rfl)
      · intro S W K hE hn hf hd hK
        have d24 : S.tmps.getD 24 undef = (.pointer (some ⟨w.heap.size, 4, none⟩)) := hd 1 _ rfl (by kernel_rfl)
        refine want_free rfl ?_
        rw [Array.getD_eq_getD_getElem?] at d24
        have hcl := Hcl.out W hE.toMut
        go_simp
        exact hK _ _ (Chs.refl _ _) (fun _ _ h => h) rfl
      · intro S W K hE hn hf hd hK
        have d25 : S.tmps.getD 25 undef = (.string xs) := hd 2 _ rfl (by kernel_rfl)
        refine want_free rfl ?_
        rw [Array.getD_eq_getD_getElem?] at d25
        go_simp
        exact hK _ _ (Chs.refl _ _) (fun _ _ h => h) rfl
      · intro S W K hE hn hf hd hK
        have hn : W.heap[g]? = some (rdObj A c ⟨bs, pos, 0⟩) := hn (4, g, rdObj A c ⟨bs, pos, 0⟩) (by simp) rfl
        have d23 : S.tmps.getD 23 undef = (.pointer (some ⟨g, 0, none⟩)) := hd 0 _ rfl (by kernel_rfl)
        have d26 : S.tmps.getD 26 undef = (.int .i64 xs.size) := hd 3 _ rfl (by kernel_rfl)
        refine want_free rfl ?_
        rw [Array.getD_eq_getD_getElem?] at d23 d26
        go_simp
        refine (Hc.out W (Hst.out W _ hE hn)).mono ?_
        rintro e W' ⟨rfl, hr2, hm2⟩
        exact hK _ _ (Chs.rd hm2 hr2) (Holds.mut hm2.block (by simp)) ⟨rfl, hr2.obj⟩
      · intro S W K hE hn hf hd hK
        have f3 : S.tmps.getD 3 undef = .pointer (some ⟨w.heap.size, 0, none⟩) := hf 3 (by kernel_rfl)
        refine want_free rfl ?_
        rw [Array.getD_eq_getD_getElem?] at f3
        go_simp
        exact hK _ _ (Chs.refl [(g, rdObj A c ⟨bs, pos2, 0⟩)] _) (fun _ _ h => h) (rfl)
      · intro S W K hE hn hf hd hK
        have d28 : S.tmps.getD 28 undef = (.pointer (some ⟨w.heap.size, 4, none⟩)) := hd 5 _ rfl (by kernel_rfl)
        refine want_free rfl ?_
        rw [Array.getD_eq_getD_getElem?] at d28
        have hcl := Hcl.out W hE.toMut
        go_simp
        exact hK _ _ (Chs.refl _ _) (fun _ _ h => h) rfl
      · intro S W K hE hn hf hd hK
        have m27 := (hd 4 _ rfl (by kernel_rfl)).2
        have d27 : S.tmps.getD 27 undef = (.string xs) := (hd 4 _ rfl (by kernel_rfl)).1
        have d29 : S.tmps.getD 29 undef = (.string xs) := hd 6 _ rfl (by kernel_rfl)
        refine want_free rfl ?_
        rw [Array.getD_eq_getD_getElem?] at d27 d29
        go_simp
        exact hK _ _ (Chs.refl _ _) (fun _ _ h => h) (by first | rfl | simp)
      · intro S W K hE hn hf hd hK
        have d30 : S.tmps.getD 30 undef = (.bool true) := hd 7 _ rfl (by kernel_rfl)
        refine want_free rfl ?_
        rw [Array.getD_eq_getD_getElem?] at d30
        go_simp
        exact hK _ _ (Chs.refl [(g, rdObj A c ⟨bs, pos2, 0⟩)] _) (fun _ _ h => h) (rfl)
    · intro vs W hE hV
      have v0 : vs 0 = (.pointer (some ⟨g, 0, none⟩)) := hV 0 _ rfl
      have v1 : vs 1 = (.pointer (some ⟨w.heap.size, 4, none⟩)) := hV 1 _ rfl
      have v2 : vs 2 = (.string xs) := hV 2 _ rfl
      have v3 : vs 3 = (.int .i64 xs.size) := hV 3 _ rfl
      have v4 := hV 4 _ rfl
      have e4 : vs 4 = (.string xs) := v4.1
      have v5 : vs 5 = (.pointer (some ⟨w.heap.size, 4, none⟩)) := hV 5 _ rfl
      have v6 : vs 6 = (.string xs) := hV 6 _ rfl
      have v7 : vs 7 = (.bool true) := hV 7 _ rfl
      have v8 : vs 8 = (.bool true) := hV 8 _ rfl
      clear hV
      set_option maxRecDepth 100000 in simp only [putAll, List.map_cons, List.map_nil, List.length_cons, List.length_nil, Nat.reduceAdd, List.range_succ, List.range_zero, List.nil_append, List.cons_append]
      set_option maxRecDepth 100000 in go_simp
      have hfin := Hfin.out W ⟨bs, pos2, 0⟩ hE.toMut rfl hple v4.2
      go_wp2
      go_ret
      exact ⟨rfl, hfin.2⟩
  · have e0 : tellM ⟨3, xu, xn, xm, xs, xon, xl, xi⟩ = [if xon then 1 else 0] := rfl
    rw [e0] at hd ⊢
    have hlaw := FlagR_enc hd hp
    have hple := drop_len hd hp
    have Hc := Lib.hid (fun W (h0 : RdAt W B g A c ⟨bs, pos, 0⟩) => rdFlag_calls W B g A c _ h0)
    rw [show FlagR ⟨bs, pos, 0⟩ = _ from hlaw] at Hc
    generalize hq : pos + ([if xon then 1 else 0]).length = pos2 at *
    clear hlaw hd e0 hq
    have Hcl := Lib.hid (fun W (hE : Mut g w0 W) => (Hcell.out W hE 5).trans (show (itC ⟨3, xu, xn, xm, xs, xon, xl, xi⟩ Al cl Ai ci)[5]? = some (.bool xon) from rfl))
    have hck := (Hcell.out w0 (Mut.refl _ _) 0).trans (show (itC ⟨3, xu, xn, xm, xs, xon, xl, xi⟩ Al cl Ai ci)[0]? = some (.int .i64 3) from rfl)
    clear Hcell hit hl hi hp0 hii
    unfold itC at *
    simp only at hw0
    go_enter Try.func22, Try.ntmps22
    go_wp2_with fail
    refine wp_region_stepsC (Holds [(1, g, rdObj A c ⟨bs, pos, 0⟩)]) (Chs [(g, rdObj A c ⟨bs, pos2, 0⟩)]) (Chs.refl [(g, rdObj A c ⟨bs, pos2, 0⟩)]) (Chs.trans [(g, rdObj A c ⟨bs, pos2, 0⟩)]) (Chs.drew [(g, rdObj A c ⟨bs, pos2, 0⟩)]) [.eq (.pointer (some ⟨g, 0, none⟩)), .eqd (.bool xon) (g, rdObj A c ⟨bs, pos2, 0⟩) (by simp), .eq (.pointer (some ⟨w.heap.size, 5, none⟩)), .eq (.bool xon), .eq (.bool true), .eq (.bool true)] (by kernel_rfl) (holds_start (holds_cons Hrd.out.obj (holds_nil _))) (by kernel_rfl) (fun j o' hj hd v v' w h => (none_not (by kernel_rfl) hj hd).elim) ?_ ?_
    · refine ⟨?_, ?_, ?_, ?_, ?_, ?_, trivial⟩
      · intro S W K hE hn hf hd hK
        have f0 : S.tmps.getD 0 undef = .pointer (some ⟨g, 0, none⟩) := hf 0 (by kernel_rfl)
        refine want_free rfl ?_
        rw [Array.getD_eq_getD_getElem?] at f0
        go_simp
        exact hK _ _ (Chs.refl [(g, rdObj A c ⟨bs, pos2, 0⟩)] _) (fun _ _ h => h) (rfl)
      · intro S W K hE hn hf hd hK
        have hn : W.heap[g]? = some (rdObj A c ⟨bs, pos, 0⟩) := hn (1, g, rdObj A c ⟨bs, pos, 0⟩) (by simp) rfl
        have d33 : S.tmps.getD 33 undef = (.pointer (some ⟨g, 0, none⟩)) := hd 0 _ rfl (by kernel_rfl)
        refine want_free rfl ?_
        rw [Array.getD_eq_getD_getElem?] at d33
        go_simp
        refine (Hc.out W (Hst.out W _ hE hn)).mono ?_
        rintro e W' ⟨rfl, hr2, hm2⟩
        exact hK _ _ (Chs.rd hm2 hr2) (Holds.mut hm2.block (by simp)) ⟨rfl, hr2.obj⟩
      · intro S W K hE hn hf hd hK
        have f3 : S.tmps.getD 3 undef = .pointer (some ⟨w.heap.size, 0, none⟩) := hf 3 (by kernel_rfl)
        refine want_free rfl ?_
        rw [Array.getD_eq_getD_getElem?] at f3
        go_simp
        exact hK _ _ (Chs.refl [(g, rdObj A c ⟨bs, pos2, 0⟩)] _) (fun _ _ h => h) (rfl)
      · intro S W K hE hn hf hd hK
        have d35 : S.tmps.getD 35 undef = (.pointer (some ⟨w.heap.size, 5, none⟩)) := hd 2 _ rfl (by kernel_rfl)
        refine want_free rfl ?_
        rw [Array.getD_eq_getD_getElem?] at d35
        have hcl := Hcl.out W hE.toMut
        go_simp
        exact hK _ _ (Chs.refl _ _) (fun _ _ h => h) rfl
      · intro S W K hE hn hf hd hK
        have m34 := (hd 1 _ rfl (by kernel_rfl)).2
        have d34 : S.tmps.getD 34 undef = (.bool xon) := (hd 1 _ rfl (by kernel_rfl)).1
        have d36 : S.tmps.getD 36 undef = (.bool xon) := hd 3 _ rfl (by kernel_rfl)
        refine want_free rfl ?_
        rw [Array.getD_eq_getD_getElem?] at d34 d36
        go_simp
        exact hK _ _ (Chs.refl _ _) (fun _ _ h => h) (by first | rfl | simp)
      · intro S W K hE hn hf hd hK
        have d37 : S.tmps.getD 37 undef = (.bool true) := hd 4 _ rfl (by kernel_rfl)
        refine want_free rfl ?_
        rw [Array.getD_eq_getD_getElem?] at d37
        go_simp
        exact hK _ _ (Chs.refl [(g, rdObj A c ⟨bs, pos2, 0⟩)] _) (fun _ _ h => h) (rfl)
    · intro vs W hE hV
      have v0 : vs 0 = (.pointer (some ⟨g, 0, none⟩)) := hV 0 _ rfl
      have v1 := hV 1 _ rfl
      have e1 : vs 1 = (.bool xon) := v1.1
      have v2 : vs 2 = (.pointer (some ⟨w.heap.size, 5, none⟩)) := hV 2 _ rfl
      have v3 : vs 3 = (.bool xon) := hV 3 _ rfl
      have v4 : vs 4 = (.bool true) := hV 4 _ rfl
      have v5 : vs 5 = (.bool true) := hV 5 _ rfl
      clear hV
      set_option maxRecDepth 100000 in simp only [putAll, List.map_cons, List.map_nil, List.length_cons, List.length_nil, Nat.reduceAdd, List.range_succ, List.range_zero, List.nil_append, List.cons_append]
      set_option maxRecDepth 100000 in go_simp
      have hfin := Hfin.out W ⟨bs, pos2, 0⟩ hE.toMut rfl hple v1.2
      go_wp2
      go_ret
      exact ⟨rfl, hfin.2⟩
  · have e0 : tellM ⟨4, xu, xn, xm, xs, xon, xl, xi⟩ = encTs xl := rfl
    rw [e0] at hd ⊢
    have hlaw := TextsR_enc hp hd (Int.le_refl _) (by unfold maxLen at hl63; omega) (fun s hs => hsh.l.2 s hs)
    have hple := drop_len hd hp
    have Hc := Lib.hid (fun W (h0 : RdAt W B g A c ⟨bs, pos, 0⟩) => rdTexts_calls W B g A c _ h0 xl.length 60 (by unfold maxLen at hl63; omega) (by decide))
    rw [show TextsR ⟨bs, pos, 0⟩ xl.length 60 = _ from hlaw] at Hc
    generalize hq : pos + (encTs xl).length = pos2 at *
    clear hlaw hd e0 hq
    have Hsm := Lib.hid (fun W (A1 : Option Addr) (c1 : Nat) (F1 : Nat → Prop) h1 hE => Same_calls A1 c1 Al cl xl F1 _ W hl63 h1 (Hrl.out W hE))
    have Hcl := Lib.hid (fun W (hE : Mut g w0 W) => (Hcell.out W hE 6).trans (show (itC ⟨4, xu, xn, xm, xs, xon, xl, xi⟩ Al cl Ai ci)[6]? = some (.slice Al xl.length cl) from rfl))
    have hck := (Hcell.out w0 (Mut.refl _ _) 0).trans (show (itC ⟨4, xu, xn, xm, xs, xon, xl, xi⟩ Al cl Ai ci)[0]? = some (.int .i64 4) from rfl)
    clear Hcell hit hl hi hp0 hii
    unfold itC at *
    simp only at hw0
    go_enter Try.func22, Try.ntmps22
    go_wp2_with fail
    refine wp_region_stepsC (Holds [(4, g, rdObj A c ⟨bs, pos, 0⟩)]) (Chs [(g, rdObj A c ⟨bs, pos2, 0⟩)]) (Chs.refl [(g, rdObj A c ⟨bs, pos2, 0⟩)]) (Chs.trans [(g, rdObj A c ⟨bs, pos2, 0⟩)]) (Chs.drew [(g, rdObj A c ⟨bs, pos2, 0⟩)]) [.eq (.pointer (some ⟨g, 0, none⟩)), .eq (.pointer (some ⟨w.heap.size, 6, none⟩)), .eq (.slice Al xl.length cl), .eq (.int .i64 xl.length), .slcd str xl (g, rdObj A c ⟨bs, pos2, 0⟩) (by simp), .eq (.pointer (some ⟨w.heap.size, 6, none⟩)), .eq (.slice Al xl.length cl), .eq (.bool true), .eq (.bool true)] (by kernel_rfl) (holds_start (holds_cons Hrd.out.obj (holds_nil _))) (by kernel_rfl) (fun j o' hj hd v v' w h => (none_not (by kernel_rfl) hj hd).elim) ?_ ?_
    · refine ⟨?_, ?_, ?_, ?_, ?_, ?_, ?_, ?_, ?_, trivial⟩
      · intro S W K hE hn hf hd hK
        have f0 : S.tmps.getD 0 undef = .pointer (some ⟨g, 0, none⟩) := hf 0 (by kernel_rfl)
        refine want_free rfl ?_
        rw [Array.getD_eq_getD_getElem?] at f0
        go_simp
        exact hK _ _ (Chs.refl [(g, rdObj A c ⟨bs, pos2, 0⟩)] _) (fun _ _ h => h) (rfl)
      · intro S W K hE hn hf hd hK
        have f3 : S.tmps.getD 3 undef = .pointer (some ⟨w.heap.size, 0, none⟩) := hf 3 (by kernel_rfl)
        refine want_free rfl ?_
        rw [Array.getD_eq_getD_getElem?] at f3
        go_simp
        exact hK _ _ (Chs.refl [(g, rdObj A c ⟨bs, pos2, 0⟩)] _) (fun _ _ h => h) (rfl)
      · intro S W K hE hn hf hd hK
        have d41 : S.tmps.getD 41 undef = (.pointer (some ⟨w.heap.size, 6, none⟩)) := hd 1 _ rfl (by kernel_rfl)
        refine want_free rfl ?_
        rw [Array.getD_eq_getD_getElem?] at d41
        have hcl := Hcl.out W hE.toMut
        go_simp
        exact hK _ _ (Chs.refl _ _) (fun _ _ h => h) rfl
      · intro S W K hE hn hf hd hK
        have d42 : S.tmps.getD 42 undef = (.slice Al xl.length cl) := hd 2 _ rfl (by kernel_rfl)
        refine want_free rfl ?_
        rw [Array.getD_eq_getD_getElem?] at d42
        go_simp
        exact hK _ _ (Chs.refl _ _) (fun _ _ h => h) rfl
      · intro S W K hE hn hf hd hK
        have hn : W.heap[g]? = some (rdObj A c ⟨bs, pos, 0⟩) := hn (4, g, rdObj A c ⟨bs, pos, 0⟩) (by simp) rfl
        have d40 : S.tmps.getD 40 undef = (.pointer (some ⟨g, 0, none⟩)) := hd 0 _ rfl (by kernel_rfl)
        have d43 : S.tmps.getD 43 undef = (.int .i64 xl.length) := hd 3 _ rfl (by kernel_rfl)
        refine want_free rfl ?_
        rw [Array.getD_eq_getD_getElem?] at d40 d43
        go_simp
        refine (Hc.out W (Hst.out W _ hE hn)).mono ?_
        rintro e W' ⟨v, rfl, ho2, hr2, hm2⟩
        have hgl2 := (Hst.out W _ hE hn).lt
        have hat := fun j (hj : v.ownBlock = some j) => ho2.at hj
        exact hK _ _ (Chs.rd hm2 hr2) (Holds.mut hm2.block (by simp)) ⟨Sl.mono ho2.sl fun j hj => by have := hat j (hj.resolve_left id); exact ⟨this.2, by simp; omega⟩, hr2.obj⟩
      · intro S W K hE hn hf hd hK
        have f3 : S.tmps.getD 3 undef = .pointer (some ⟨w.heap.size, 0, none⟩) := hf 3 (by kernel_rfl)
        refine want_free rfl ?_
        rw [Array.getD_eq_getD_getElem?] at f3
        go_simp
        exact hK _ _ (Chs.refl [(g, rdObj A c ⟨bs, pos2, 0⟩)] _) (fun _ _ h => h) (rfl)
      · intro S W K hE hn hf hd hK
        have d45 : S.tmps.getD 45 undef = (.pointer (some ⟨w.heap.size, 6, none⟩)) := hd 5 _ rfl (by kernel_rfl)
        refine want_free rfl ?_
        rw [Array.getD_eq_getD_getElem?] at d45
        have hcl := Hcl.out W hE.toMut
        go_simp
        exact hK _ _ (Chs.refl _ _) (fun _ _ h => h) rfl
      · intro S W K hE hn hf hd hK
        obtain ⟨⟨A44, c44, d44, l44, m44, r44⟩, _⟩ := hd 4 _ rfl (by kernel_rfl)
        change S.tmps.getD 44 undef = _ at d44
        have d46 : S.tmps.getD 46 undef = (.slice Al xl.length cl) := hd 6 _ rfl (by kernel_rfl)
        refine want_free rfl ?_
        rw [Array.getD_eq_getD_getElem?] at d44 d46
        go_simp
        refine (Hsm.out W _ _ (fun k => k < W.heap.size ∧ ∀ c2 ∈ [(g, rdObj A c ⟨bs, pos2, 0⟩)], c2.1 ≠ k) ?_ hE.toMut).mono ?_
        · exact r44
        rintro e W' ⟨rfl, nd, rfl⟩
        refine hK _ _ (Chs.of ?_ (Drawn.below ⟨nd, rfl⟩)) (fun _ _ h => h) rfl
        intro c1 hc1
        rw [List.mem_singleton.1 hc1]
        have := hE.size
        omega
      · intro S W K hE hn hf hd hK
        have d47 : S.tmps.getD 47 undef = (.bool true) := hd 7 _ rfl (by kernel_rfl)
        refine want_free rfl ?_
        rw [Array.getD_eq_getD_getElem?] at d47
        go_simp
        exact hK _ _ (Chs.refl [(g, rdObj A c ⟨bs, pos2, 0⟩)] _) (fun _ _ h => h) (rfl)
    · intro vs W hE hV
      have v0 : vs 0 = (.pointer (some ⟨g, 0, none⟩)) := hV 0 _ rfl
      have v1 : vs 1 = (.pointer (some ⟨w.heap.size, 6, none⟩)) := hV 1 _ rfl
      have v2 : vs 2 = (.slice Al xl.length cl) := hV 2 _ rfl
      have v3 : vs 3 = (.int .i64 xl.length) := hV 3 _ rfl
      have v4 := hV 4 _ rfl
      have v5 : vs 5 = (.pointer (some ⟨w.heap.size, 6, none⟩)) := hV 5 _ rfl
      have v6 : vs 6 = (.slice Al xl.length cl) := hV 6 _ rfl
      have v7 : vs 7 = (.bool true) := hV 7 _ rfl
      have v8 : vs 8 = (.bool true) := hV 8 _ rfl
      clear hV
      set_option maxRecDepth 100000 in simp only [putAll, List.map_cons, List.map_nil, List.length_cons, List.length_nil, Nat.reduceAdd, List.range_succ, List.range_zero, List.nil_append, List.cons_append]
      set_option maxRecDepth 100000 in go_simp
      have hfin := Hfin.out W ⟨bs, pos2, 0⟩ hE.toMut rfl hple v4.2
      go_wp2
      go_ret
      exact ⟨rfl, hfin.2⟩
  · have e0 : tellM ⟨5, xu, xn, xm, xs, xon, xl, xi⟩ = encIs xi := rfl
    rw [e0] at hd ⊢
    have hlaw := IntsR_enc hp hd (Int.le_refl _) (by unfold maxLen at hi63; omega) hii
    have hple := drop_len hd hp
    have Hc := Lib.hid (fun W (h0 : RdAt W B g A c ⟨bs, pos, 0⟩) => rdInts_calls W B g A c _ h0 xi.length (by unfold maxLen at hi63; omega))
    rw [show IntsR ⟨bs, pos, 0⟩ xi.length = _ from hlaw] at Hc
    generalize hq : pos + (encIs xi).length = pos2 at *
    clear hlaw hd e0 hq
    have Hsm := Lib.hid (fun W (A1 : Option Addr) (c1 : Nat) (F1 : Nat → Prop) h1 hE => SameInts_calls A1 c1 Ai ci xi F1 _ W hi63 h1 (Hri.out W hE))
    have Hcl := Lib.hid (fun W (hE : Mut g w0 W) => (Hcell.out W hE 7).trans (show (itC ⟨5, xu, xn, xm, xs, xon, xl, xi⟩ Al cl Ai ci)[7]? = some (.slice Ai xi.length ci) from rfl))
    have hck := (Hcell.out w0 (Mut.refl _ _) 0).trans (show (itC ⟨5, xu, xn, xm, xs, xon, xl, xi⟩ Al cl Ai ci)[0]? = some (.int .i64 5) from rfl)
    clear Hcell hit hl hi hp0 hii
    unfold itC at *
    simp only at hw0
    go_enter Try.func22, Try.ntmps22
    go_wp2_with fail
    refine wp_region_stepsC (Holds [(4, g, rdObj A c ⟨bs, pos, 0⟩)]) (Chs [(g, rdObj A c ⟨bs, pos2, 0⟩)]) (Chs.refl [(g, rdObj A c ⟨bs, pos2, 0⟩)]) (Chs.trans [(g, rdObj A c ⟨bs, pos2, 0⟩)]) (Chs.drew [(g, rdObj A c ⟨bs, pos2, 0⟩)]) [.eq (.pointer (some ⟨g, 0, none⟩)), .eq (.pointer (some ⟨w.heap.size, 7, none⟩)), .eq (.slice Ai xi.length ci), .eq (.int .i64 xi.length), .slcd (num .i64) xi (g, rdObj A c ⟨bs, pos2, 0⟩) (by simp), .eq (.pointer (some ⟨w.heap.size, 7, none⟩)), .eq (.slice Ai xi.length ci), .eq (.bool true), .eq (.bool true)] (by kernel_rfl) (holds_start (holds_cons Hrd.out.obj (holds_nil _))) (by kernel_rfl) (fun j o' hj hd v v' w h => (none_not (by kernel_rfl) hj hd).elim) ?_ ?_
    · refine ⟨?_, ?_, ?_, ?_, ?_, ?_, ?_, ?_, ?_, trivial⟩
      · intro S W K hE hn hf hd hK
        have f0 : S.tmps.getD 0 undef = .pointer (some ⟨g, 0, none⟩) := hf 0 (by kernel_rfl)
        refine want_free rfl ?_
        rw [Array.getD_eq_getD_getElem?] at f0
        go_simp
        exact hK _ _ (Chs.refl [(g, rdObj A c ⟨bs, pos2, 0⟩)] _) (fun _ _ h => h) (rfl)
      · intro S W K hE hn hf hd hK
        have f3 : S.tmps.getD 3 undef = .pointer (some ⟨w.heap.size, 0, none⟩) := hf 3 (by kernel_rfl)
        refine want_free rfl ?_
        rw [Array.getD_eq_getD_getElem?] at f3
        go_simp
        exact hK _ _ (Chs.refl [(g, rdObj A c ⟨bs, pos2, 0⟩)] _) (fun _ _ h => h) (rfl)
      · intro S W K hE hn hf hd hK
        have d51 : S.tmps.getD 51 undef = (.pointer (some ⟨w.heap.size, 7, none⟩)) := hd 1 _ rfl (by kernel_rfl)
        refine want_free rfl ?_
        rw [Array.getD_eq_getD_getElem?] at d51
        have hcl := Hcl.out W hE.toMut
        go_simp
        exact hK _ _ (Chs.refl _ _) (fun _ _ h => h) rfl
      · intro S W K hE hn hf hd hK
        have d52 : S.tmps.getD 52 undef = (.slice Ai xi.length ci) := hd 2 _ rfl (by kernel_rfl)
        refine want_free rfl ?_
        rw [Array.getD_eq_getD_getElem?] at d52
        go_simp
        exact hK _ _ (Chs.refl _ _) (fun _ _ h => h) rfl
      · intro S W K hE hn hf hd hK
        have hn : W.heap[g]? = some (rdObj A c ⟨bs, pos, 0⟩) := hn (4, g, rdObj A c ⟨bs, pos, 0⟩) (by simp) rfl
        have d50 : S.tmps.getD 50 undef = (.pointer (some ⟨g, 0, none⟩)) := hd 0 _ rfl (by kernel_rfl)
        have d53 : S.tmps.getD 53 undef = (.int .i64 xi.length) := hd 3 _ rfl (by kernel_rfl)
        refine want_free rfl ?_
        rw [Array.getD_eq_getD_getElem?] at d50 d53
        go_simp
        refine (Hc.out W (Hst.out W _ hE hn)).mono ?_
        rintro e W' ⟨v, rfl, ho2, hr2, hm2⟩
        have hgl2 := (Hst.out W _ hE hn).lt
        have hat := fun j (hj : v.ownBlock = some j) => ho2.at hj
        exact hK _ _ (Chs.rd hm2 hr2) (Holds.mut hm2.block (by simp)) ⟨Sl.mono ho2.sl fun j hj => by have := hat j (hj.resolve_left id); exact ⟨this.2, by simp; omega⟩, hr2.obj⟩
      · intro S W K hE hn hf hd hK
        have f3 : S.tmps.getD 3 undef = .pointer (some ⟨w.heap.size, 0, none⟩) := hf 3 (by kernel_rfl)
        refine want_free rfl ?_
        rw [Array.getD_eq_getD_getElem?] at f3
        go_simp
        exact hK _ _ (Chs.refl [(g, rdObj A c ⟨bs, pos2, 0⟩)] _) (fun _ _ h => h) (rfl)
      · intro S W K hE hn hf hd hK
        have d55 : S.tmps.getD 55 undef = (.pointer (some ⟨w.heap.size, 7, none⟩)) := hd 5 _ rfl (by kernel_rfl)
        refine want_free rfl ?_
        rw [Array.getD_eq_getD_getElem?] at d55
        have hcl := Hcl.out W hE.toMut
        go_simp
        exact hK _ _ (Chs.refl _ _) (fun _ _ h => h) rfl
      · intro S W K hE hn hf hd hK
        obtain ⟨⟨A54, c54, d54, l54, m54, r54⟩, _⟩ := hd 4 _ rfl (by kernel_rfl)
        change S.tmps.getD 54 undef = _ at d54
        have d56 : S.tmps.getD 56 undef = (.slice Ai xi.length ci) := hd 6 _ rfl (by kernel_rfl)
        refine want_free rfl ?_
        rw [Array.getD_eq_getD_getElem?] at d54 d56
        go_simp
        refine (Hsm.out W _ _ (fun k => k < W.heap.size ∧ ∀ c2 ∈ [(g, rdObj A c ⟨bs, pos2, 0⟩)], c2.1 ≠ k) ?_ hE.toMut).mono ?_
        · exact r54
        rintro e W' ⟨rfl, nd, rfl⟩
        refine hK _ _ (Chs.of ?_ (Drawn.below ⟨nd, rfl⟩)) (fun _ _ h => h) rfl
        intro c1 hc1
        rw [List.mem_singleton.1 hc1]
        have := hE.size
        omega
      · intro S W K hE hn hf hd hK
        have d57 : S.tmps.getD 57 undef = (.bool true) := hd 7 _ rfl (by kernel_rfl)
        refine want_free rfl ?_
        rw [Array.getD_eq_getD_getElem?] at d57
        go_simp
        exact hK _ _ (Chs.refl [(g, rdObj A c ⟨bs, pos2, 0⟩)] _) (fun _ _ h => h) (rfl)
    · intro vs W hE hV
      have v0 : vs 0 = (.pointer (some ⟨g, 0, none⟩)) := hV 0 _ rfl
      have v1 : vs 1 = (.pointer (some ⟨w.heap.size, 7, none⟩)) := hV 1 _ rfl
      have v2 : vs 2 = (.slice Ai xi.length ci) := hV 2 _ rfl
      have v3 : vs 3 = (.int .i64 xi.length) := hV 3 _ rfl
      have v4 := hV 4 _ rfl
      have v5 : vs 5 = (.pointer (some ⟨w.heap.size, 7, none⟩)) := hV 5 _ rfl
      have v6 : vs 6 = (.slice Ai xi.length ci) := hV 6 _ rfl
      have v7 : vs 7 = (.bool true) := hV 7 _ rfl
      have v8 : vs 8 = (.bool true) := hV 8 _ rfl
      clear hV
      set_option maxRecDepth 100000 in simp only [putAll, List.map_cons, List.map_nil, List.length_cons, List.length_nil, Nat.reduceAdd, List.range_succ, List.range_zero, List.nil_append, List.cons_append]
      set_option maxRecDepth 100000 in go_simp
      have hfin := Hfin.out W ⟨bs, pos2, 0⟩ hE.toMut rfl hple v4.2
      go_wp2
      go_ret
      exact ⟨rfl, hfin.2⟩
end Go.Proofs.Ytjmeoaookpnknaa
