/- Contract: both: one call of a reader, and of the document's. -/
import Derived.Test.YtjmeoaookpnknaaRRd6
import Derived.Test.YtjmeoaookpnknaaWRead
set_option linter.unusedVariables false
set_option linter.unusedSimpArgs false
namespace Go.Proofs.Ytjmeoaookpnknaa
open Go Go.RowKit

def qObj (A : Option Addr) (c : Nat) (x : RdM) : Obj := .cells #[.slice A x.bs.length c, .int .i64 x.pos, .int .i64 x.err] 52 (0, 0)
theorem QAt.chs {cs : List (Nat × Obj)} {w W : World} {B g : Nat} {A : Option Addr} {c : Nat} {x : RdM} (h : QAt w B g A c x) (hE : Chs cs w W) (hg : W.heap[g]? = some (qObj A c x)) (hA : ∀ a, A = some a → ∀ c ∈ cs, c.1 ≠ a.block) : QAt W B g A c x :=
  h.move hE.size fun k hk hor => by
    rcases hor with rfl | ⟨a, ha, rfl⟩
    · exact hg.trans h.obj.symm
    · exact hE.block _ hk (hA a ha)
/-- A value, and what memory has come to. -/
def SP.eqm {E : World → World → Prop} (v : Value) (q : World → Prop) (hq : ∀ w w', q w → E w w' → q w') : SP E := ⟨fun u w => u = v ∧ q w, fun h hE => ⟨h.1, hq _ _ h.2 hE⟩⟩
def SP.slm {cs : List (Nat × Obj)} {α : Type} (d : Kd α) (l : List α) (q : World → Prop) (hq : ∀ w w', q w → Chs cs w w' → q w') : SP (Chs cs) := ⟨fun u w => (SP.slc (cs := cs) d l).p u w ∧ q w, fun h hE => ⟨(SP.slc (cs := cs) d l).st h.1 hE, hq _ _ h.2 hE⟩⟩
theorem rd_stay {cs : List (Nat × Obj)} {B g : Nat} {A : Option Addr} {c : Nat} {y : RdM} (hb : (g, rdObj A c y) ∈ cs) (hA : ∀ a, A = some a → ∀ c ∈ cs, c.1 ≠ a.block) : ∀ w w', RdAt w B g A c y → Chs cs w w' → RdAt w' B g A c y := fun w w' h hE =>
  h.chs hE (Chs.stay hb h.obj hE) hA
theorem q_stay {cs : List (Nat × Obj)} {B g : Nat} {A : Option Addr} {c : Nat} {y : RdM} (hb : (g, qObj A c y) ∈ cs) (hA : ∀ a, A = some a → ∀ c ∈ cs, c.1 ≠ a.block) : ∀ w w', QAt w B g A c y → Chs cs w w' → QAt w' B g A c y := fun w w' h hE =>
  h.chs hE (Chs.stay hb h.obj hE) hA
/-- Two blocks alone have changed. -/
structure Mut2 (g h : Nat) (w w' : World) : Prop where
  os : w'.os = w.os
  tape : w'.tape = w.tape
  output : w'.output = w.output
  size : w.heap.size ≤ w'.heap.size
  block : ∀ k, k < w.heap.size → k ≠ g → k ≠ h → w'.heap[k]? = w.heap[k]?
theorem Mut2.refl (g h : Nat) (w : World) : Mut2 g h w w := ⟨rfl, rfl, rfl, Nat.le_refl _, fun _ _ _ _ => rfl⟩
theorem Mut2.trans {g h : Nat} {a b c : World} (x : Mut2 g h a b) (k : Mut2 g h b c) : Mut2 g h a c :=
  ⟨k.os.trans x.os, k.tape.trans x.tape, k.output.trans x.output, Nat.le_trans x.size k.size, fun i hi h1 h2 => (k.block i (Nat.lt_of_lt_of_le hi x.size) h1 h2).trans (x.block i hi h1 h2)⟩
theorem Mut.toL {g h : Nat} {w w' : World} (x : Mut g w w') : Mut2 g h w w' := ⟨x.os, x.tape, x.output, x.size, fun k hk h1 _ => x.block k hk h1⟩
theorem Mut.toR {g h : Nat} {w w' : World} (x : Mut h w w') : Mut2 g h w w' := ⟨x.os, x.tape, x.output, x.size, fun k hk _ h2 => x.block k hk h2⟩
theorem Chs.toMut2 {g h : Nat} {C D : Obj} {w w' : World} (x : Chs [(g, C), (h, D)] w w') : Mut2 g h w w' := ⟨x.os, x.tape, x.output, x.size, fun k hk h1 h2 => x.block k hk (by simp; omega)⟩
theorem Mut2.below {g h B : Nat} {w w' : World} (x : Mut2 g h w w') (hg : B ≤ g) (hh : B ≤ h) (hs : B ≤ w.heap.size) : Below B w w' := ⟨x.os, x.tape, x.output, x.size, fun k hk => x.block k (by omega) (by omega) (by omega)⟩
/-- Two readers that stand alike, apart in memory. -/
structure Two1 (w : World) (B g h : Nat) (A : Option Addr) (c : Nat) (A' : Option Addr) (c' : Nat) (x : RdM) : Prop where
  p : RdAt w B g A c x
  q : QAt w B h A' c' x
  ne : g ≠ h
  ah : ∀ a, A = some a → a.block ≠ h
  ag : ∀ a, A' = some a → a.block ≠ g
theorem Two1.chs1 {w W : World} {B g h : Nat} {A : Option Addr} {c : Nat} {A' : Option Addr} {c' : Nat} {x : RdM} {C D : Obj} (t : Two1 w B g h A c A' c' x) (hE : Chs [(g, C), (h, D)] w W) (hn : W.heap[g]? = some (rdObj A c x)) : RdAt W B g A c x :=
  t.p.chs hE hn fun a ha c hc => by
    have h1 := t.ah a ha
    have h2 := (t.p.far a ha).2.1
    simp only [List.mem_cons, List.not_mem_nil, or_false] at hc
    rcases hc with rfl | rfl
    · exact fun e => h2 e.symm
    · exact fun e => h1 e.symm
theorem Two1.chs2 {w W : World} {B g h : Nat} {A : Option Addr} {c : Nat} {A' : Option Addr} {c' : Nat} {x : RdM} {C D : Obj} (t : Two1 w B g h A c A' c' x) (hE : Chs [(g, C), (h, D)] w W) (hn : W.heap[h]? = some (qObj A' c' x)) : QAt W B h A' c' x :=
  t.q.chs hE hn fun a ha c hc => by
    have h1 := t.ag a ha
    have h2 := (t.q.far a ha).1
    simp only [List.mem_cons, List.not_mem_nil, or_false] at hc
    rcases hc with rfl | rfl
    · exact fun e => h1 e.symm
    · exact fun e => h2 e.symm
theorem Two1.stay1 {w : World} {B g h : Nat} {A : Option Addr} {c : Nat} {A' : Option Addr} {c' : Nat} {x y : RdM} {D : Obj} (t : Two1 w B g h A c A' c' x) : ∀ w w', RdAt w B g A c y → Chs [(g, rdObj A c y), (h, D)] w w' → RdAt w' B g A c y :=
  rd_stay (by simp) fun a ha c hc => by
    have h1 := t.ah a ha
    have h2 := (t.p.far a ha).2.1
    simp only [List.mem_cons, List.not_mem_nil, or_false] at hc
    rcases hc with rfl | rfl
    · exact fun e => h2 e.symm
    · exact fun e => h1 e.symm
theorem Two1.stay2 {w : World} {B g h : Nat} {A : Option Addr} {c : Nat} {A' : Option Addr} {c' : Nat} {x y : RdM} {C : Obj} (t : Two1 w B g h A c A' c' x) : ∀ w w', QAt w B h A' c' y → Chs [(g, C), (h, qObj A' c' y)] w w' → QAt w' B h A' c' y :=
  q_stay (by simp) fun a ha c hc => by
    have h1 := t.ag a ha
    have h2 := (t.q.far a ha).1
    simp only [List.mem_cons, List.not_mem_nil, or_false] at hc
    rcases hc with rfl | rfl
    · exact fun e => h1 e.symm
    · exact fun e => h2 e.symm
theorem Two1.did1 {w W W' : World} {B g h : Nat} {A : Option Addr} {c : Nat} {A' : Option Addr} {c' : Nat} {x y : RdM} {D : Obj} (t : Two1 w B g h A c A' c' x) (hs : w.heap.size ≤ W.heap.size) (hm : Mut g W W') (hr : RdAt W' B g A c y) : Chs [(g, rdObj A c y), (h, D)] W W' :=
  Chs.mut (C := rdObj A c y) hm.os hm.tape hm.output hm.size hm.block hr.obj (by simp) (fun c hc => by
    have h1 := t.q.lt
    have h2 := t.ne
    simp only [List.mem_cons, List.not_mem_nil, or_false] at hc
    rcases hc with rfl | rfl
    · exact .inr rfl
    · exact .inl ⟨fun e => h2 e.symm, by show h < _; omega⟩)
theorem Two1.did2 {w W W' : World} {B g h : Nat} {A : Option Addr} {c : Nat} {A' : Option Addr} {c' : Nat} {x y : RdM} {C : Obj} (t : Two1 w B g h A c A' c' x) (hs : w.heap.size ≤ W.heap.size) (hm : Mut h W W') (hr : QAt W' B h A' c' y) : Chs [(g, C), (h, qObj A' c' y)] W W' :=
  Chs.mut (C := qObj A' c' y) hm.os hm.tape hm.output hm.size hm.block hr.obj (by simp) (fun c hc => by
    have h1 := t.p.lt
    have h2 := t.ne
    simp only [List.mem_cons, List.not_mem_nil, or_false] at hc
    rcases hc with rfl | rfl
    · exact .inl ⟨h2, by show g < _; omega⟩
    · exact .inr rfl)
theorem Two1.ext {w W : World} {B g h : Nat} {A : Option Addr} {c : Nat} {A' : Option Addr} {c' : Nat} {x : RdM} (t : Two1 w B g h A c A' c' x) (hE : Ext w W) : Two1 W B g h A c A' c' x := ⟨t.p.ext hE, t.q.ext hE, t.ne, t.ah, t.ag⟩
/-- One behind the other. -/
theorem Two1.step1 {w W : World} {B g h : Nat} {A : Option Addr} {c : Nat} {A' : Option Addr} {c' : Nat} {x : RdM} (t : Two1 w B g h A c A' c' x) (hm : Mut g w W) : QAt W B h A' c' x :=
  t.q.move hm.size fun k hk hor => hm.block k hk (by
    rcases hor with rfl | ⟨a, ha, rfl⟩
    · exact fun e => t.ne e.symm
    · exact t.ag a ha)
theorem Two1.step2 {w W W' : World} {B g h : Nat} {A : Option Addr} {c : Nat} {A' : Option Addr} {c' : Nat} {x y : RdM} (t : Two1 w B g h A c A' c' x) (hr : RdAt W B g A c y) (hm : Mut h W W') : RdAt W' B g A c y :=
  hr.move hm.size fun k hk hor => hm.block k hk (by
    rcases hor with rfl | ⟨a, ha, rfl⟩
    · exact t.ne
    · exact t.ah a ha)
def bothR (x : RdM) (it : ItM) : RdM :=
  if it.kind = 0 then (UintR x).2 else if it.kind = 1 then (IntR x).2 else if it.kind = 2 then (TextR x it.m).2 else if it.kind = 3 then (FlagR x).2 else if it.kind = 4 then (TextsR x it.m it.n).2 else if it.kind = 5 then (IntsR x it.m).2 else
  if it.kind = 6 then (WithinR x it.n it.m).2 else if it.kind = 7 then BytesR x it.m else if it.kind = 8 then (ByteR x).2 else if it.kind = 9 then RestR x else if it.kind = 10 then EndR x else x
def BothPost (w : World) (B g h : Nat) (A : Option Addr) (c : Nat) (A' : Option Addr) (c' : Nat) (y : RdM) (e : Ending) (w' : World) : Prop := e = .returned (.bool true) ∧ Two1 w' B g h A c A' c' y ∧ Mut2 g h w w'
set_option maxRecDepth 100000 in
set_option maxHeartbeats 16000000 in
theorem both_calls (w : World) (B g h : Nat) (A : Option Addr) (c : Nat) (A' : Option Addr) (c' : Nat) (x : RdM) (t : Two1 w B g h A c A' c' x) (it : ItM) (Al : Option Addr) (cl : Nat) (Ai : Option Addr) (ci : Nat) (hok : ItOk it) :
    Calls Try.prog 25 #[.pointer (some ⟨g, 0, none⟩), .pointer (some ⟨h, 0, none⟩), .agg (itC it Al cl Ai ci)] w (BothPost w B g h A c A' c' (bothR x it)) := by
  have hE0 := Ext.alloc w (.cells (itC it Al cl Ai ci) 33)
  have hsz := hE0.size
  have hp0 := heap_alloc_new w (.cells (itC it Al cl Ai ci) 33)
  have hgl := t.p.lt
  have hhl := t.q.lt
  have Ht := Lib.hid (t.ext hE0)
  have hm0 : Mut2 g h w (w.alloc (.cells (itC it Al cl Ai ci) 33)) := (Mut.of (g := g) hE0).toL
  generalize hw0 : w.alloc (.cells (itC it Al cl Ai ci) 33) = w0 at *
  have Hcell := Lib.hid (fun W (hE : Mut2 g h w0 W) (k : Nat) => cell_at ((hE.block _ (Array.getElem?_eq_some_iff.1 hp0).1 (by omega) (by omega)).trans hp0) k)
  have Hfin := Lib.hid (fun W (y : RdM) (hr : RdAt W B g A c y) (hq : QAt W B h A' c' y) (hE : Mut2 g h w0 W) => (⟨⟨hr, hq, t.ne, t.ah, t.ag⟩, hm0.trans hE⟩ : Two1 W B g h A c A' c' y ∧ Mut2 g h w W))
  have hsz0 : g < w0.heap.size ∧ h < w0.heap.size := by omega
  have hcs : ∀ (C D : Obj) (W : World), Chs [(g, C), (h, D)] w0 W → ∀ c ∈ [(g, C), (h, D)], c.1 < W.heap.size := fun C D W hE c hc => by
    have := hE.size
    simp only [List.mem_cons, List.not_mem_nil, or_false] at hc
    rcases hc with rfl | rfl
    · show g < _; omega
    · show h < _; omega
  have Hcs := Lib.hid hcs
  clear hcs hE0 hm0 hp0 t
  have hm1 := hok.m
  have hn1 := hok.n
  obtain ⟨xkind, xu, xn, xm, xs, xon, xl, xi⟩ := it
  simp only at *
  have Hcm := Lib.hid (fun W (hE : Mut2 g h w0 W) => (Hcell.out W hE 3).trans (show (itC ⟨xkind, xu, xn, xm, xs, xon, xl, xi⟩ Al cl Ai ci)[3]? = some (.int .i64 xm) from rfl))
  have Hcn := Lib.hid (fun W (hE : Mut2 g h w0 W) => (Hcell.out W hE 2).trans (show (itC ⟨xkind, xu, xn, xm, xs, xon, xl, xi⟩ Al cl Ai ci)[2]? = some (.int .i64 xn) from rfl))
  have hck := (Hcell.out w0 (Mut2.refl _ _ _) 0).trans (show (itC ⟨xkind, xu, xn, xm, xs, xon, xl, xi⟩ Al cl Ai ci)[0]? = some (.int .i64 xkind) from rfl)
  clear Hcell hok
  unfold itC at *
  simp only at hw0
  by_cases hk : 0 ≤ xkind ∧ xkind ≤ 10
  · rcases (show xkind = 0 ∨ xkind = 1 ∨ xkind = 2 ∨ xkind = 3 ∨ xkind = 4 ∨ xkind = 5 ∨ xkind = 6 ∨ xkind = 7 ∨ xkind = 8 ∨ xkind = 9 ∨ xkind = 10 by omega) with rfl | rfl | rfl | rfl | rfl | rfl | rfl | rfl | rfl | rfl | rfl
    · have Hp := Lib.hid (rdUint_calls w0 B g A c x Ht.out.p)
      have Hq := Lib.hid (fun W (hW : QAt W B h A' c' x) => qUint_calls W B h A' c' x hW)
      rw [show bothR x ⟨0, xu, xn, xm, xs, xon, xl, xi⟩ = (UintR x).2 from rfl]
      generalize (UintR x).2 = y at *
      generalize (UintR x).1 = v at *
      go_enter Try.func25, Try.ntmps25
      go_wp2_with fail
      refine Hp.out.mono ?_
      rintro e w2 ⟨rfl, hr2, hm2⟩
      have Hq2 := Lib.hid (Hq.out _ (Ht.out.step1 hm2))
      go_wp2_with fail
      refine Hq2.out.mono ?_
      rintro e w3 ⟨rfl, hq3, hm3⟩
      go_wp2
      go_ret
      exact ⟨by first | rfl | simp, Hfin.out w3 _ (Ht.out.step2 hr2 hm3) hq3 (hm2.toL.trans hm3.toR)⟩
    · have Hp := Lib.hid (rdInt_calls w0 B g A c x Ht.out.p)
      have Hq := Lib.hid (fun W (hW : QAt W B h A' c' x) => qInt_calls W B h A' c' x hW)
      rw [show bothR x ⟨1, xu, xn, xm, xs, xon, xl, xi⟩ = (IntR x).2 from rfl]
      generalize (IntR x).2 = y at *
      generalize (IntR x).1 = v at *
      go_enter Try.func25, Try.ntmps25
      go_wp2_with fail
      refine Hp.out.mono ?_
      rintro e w2 ⟨rfl, hr2, hm2⟩
      have Hq2 := Lib.hid (Hq.out _ (Ht.out.step1 hm2))
      go_wp2_with fail
      refine Hq2.out.mono ?_
      rintro e w3 ⟨rfl, hq3, hm3⟩
      go_wp2
      go_ret
      exact ⟨by first | rfl | simp, Hfin.out w3 _ (Ht.out.step2 hr2 hm3) hq3 (hm2.toL.trans hm3.toR)⟩
    · have Hp := Lib.hid (fun W (hW : RdAt W B g A c x) => rdText_calls W B g A c x hW xm hm1.2)
      have Hq := Lib.hid (fun W (hW : QAt W B h A' c' x) => qText_calls W B h A' c' x hW xm hm1)
      rw [show bothR x ⟨2, xu, xn, xm, xs, xon, xl, xi⟩ = (TextR x xm).2 from rfl]
      generalize (TextR x xm).2 = y at *
      generalize (TextR x xm).1 = v at *
      go_enter Try.func25, Try.ntmps25
      go_wp2_with fail
      refine wp_region_stepsC (Holds [(3, g, rdObj A c x), (7, h, qObj A' c' x)]) (Chs [(g, rdObj A c y), (h, qObj A' c' y)]) (Chs.refl [(g, rdObj A c y), (h, qObj A' c' y)]) (Chs.trans [(g, rdObj A c y), (h, qObj A' c' y)]) (Chs.drew [(g, rdObj A c y), (h, qObj A' c' y)]) [.eq (.pointer (some ⟨g, 0, none⟩)), .eq (.pointer (some ⟨w.heap.size, 3, none⟩)), .eq (.int .i64 xm), .eqm (.string v) (fun W => RdAt W B g A c y) Ht.out.stay1, .eq (.pointer (some ⟨h, 0, none⟩)), .eq (.pointer (some ⟨w.heap.size, 3, none⟩)), .eq (.int .i64 xm), .eqm (.string v) (fun W => QAt W B h A' c' y) Ht.out.stay2, .eq (.bool true), .eq (.bool true)] (by kernel_rfl) (holds_start (holds_cons Ht.out.p.obj (holds_cons Ht.out.q.obj (holds_nil _)))) (by kernel_rfl) (fun j o' hj hd v v' w h => (none_not (by kernel_rfl) hj hd).elim) ?_ ?_
      · refine ⟨?_, ?_, ?_, ?_, ?_, ?_, ?_, ?_, ?_, ?_, trivial⟩
        · intro S W K hE hn hf hd hK
          have f0 : S.tmps.getD 0 undef = .pointer (some ⟨g, 0, none⟩) := hf 0 (by kernel_rfl)
          refine want_free rfl ?_
          rw [Array.getD_eq_getD_getElem?] at f0
          go_simp
          exact hK _ _ (Chs.refl [(g, rdObj A c y), (h, qObj A' c' y)] _) (fun _ _ h => h) (rfl)
        · intro S W K hE hn hf hd hK
          have f5 : S.tmps.getD 5 undef = .pointer (some ⟨w.heap.size, 0, none⟩) := hf 5 (by kernel_rfl)
          refine want_free rfl ?_
          rw [Array.getD_eq_getD_getElem?] at f5
          go_simp
          exact hK _ _ (Chs.refl [(g, rdObj A c y), (h, qObj A' c' y)] _) (fun _ _ h => h) (rfl)
        · intro S W K hE hn hf hd hK
          have d26 : S.tmps.getD 26 undef = (.pointer (some ⟨w.heap.size, 3, none⟩)) := hd 1 _ rfl (by kernel_rfl)
          refine want_free rfl ?_
          rw [Array.getD_eq_getD_getElem?] at d26
          have hcl := Hcm.out W hE.toMut2
          go_simp
          exact hK _ _ (Chs.refl _ _) (fun _ _ h => h) rfl
        · intro S W K hE hn hf hd hK
          have hn : W.heap[g]? = some (rdObj A c x) := hn (3, g, rdObj A c x) (by simp) rfl
          have d25 : S.tmps.getD 25 undef = (.pointer (some ⟨g, 0, none⟩)) := hd 0 _ rfl (by kernel_rfl)
          have d27 : S.tmps.getD 27 undef = (.int .i64 xm) := hd 2 _ rfl (by kernel_rfl)
          refine want_free rfl ?_
          rw [Array.getD_eq_getD_getElem?] at d25 d27
          go_simp
          refine (Hp.out W (Ht.out.chs1 hE hn)).mono ?_
          rintro e W' ⟨rfl, hr2, hm2⟩
          exact hK _ _ (Ht.out.did1 hE.size hm2 hr2) (Holds.mut hm2.block (by simp [Ht.out.ne.symm])) ⟨rfl, hr2⟩
        · intro S W K hE hn hf hd hK
          have f1 : S.tmps.getD 1 undef = .pointer (some ⟨h, 0, none⟩) := hf 1 (by kernel_rfl)
          refine want_free rfl ?_
          rw [Array.getD_eq_getD_getElem?] at f1
          go_simp
          exact hK _ _ (Chs.refl [(g, rdObj A c y), (h, qObj A' c' y)] _) (fun _ _ h => h) (rfl)
        · intro S W K hE hn hf hd hK
          have f5 : S.tmps.getD 5 undef = .pointer (some ⟨w.heap.size, 0, none⟩) := hf 5 (by kernel_rfl)
          refine want_free rfl ?_
          rw [Array.getD_eq_getD_getElem?] at f5
          go_simp
          exact hK _ _ (Chs.refl [(g, rdObj A c y), (h, qObj A' c' y)] _) (fun _ _ h => h) (rfl)
        · intro S W K hE hn hf hd hK
          have d30 : S.tmps.getD 30 undef = (.pointer (some ⟨w.heap.size, 3, none⟩)) := hd 5 _ rfl (by kernel_rfl)
          refine want_free rfl ?_
          rw [Array.getD_eq_getD_getElem?] at d30
          have hcl := Hcm.out W hE.toMut2
          go_simp
          exact hK _ _ (Chs.refl _ _) (fun _ _ h => h) rfl
        · intro S W K hE hn hf hd hK
          have hn : W.heap[h]? = some (qObj A' c' x) := hn (7, h, qObj A' c' x) (by simp) rfl
          have d29 : S.tmps.getD 29 undef = (.pointer (some ⟨h, 0, none⟩)) := hd 4 _ rfl (by kernel_rfl)
          have d31 : S.tmps.getD 31 undef = (.int .i64 xm) := hd 6 _ rfl (by kernel_rfl)
          refine want_free rfl ?_
          rw [Array.getD_eq_getD_getElem?] at d29 d31
          go_simp
          refine (Hq.out W (Ht.out.chs2 hE hn)).mono ?_
          rintro e W' ⟨rfl, hr2, hm2⟩
          exact hK _ _ (Ht.out.did2 hE.size hm2 hr2) (Holds.mut hm2.block (by simp [Ht.out.ne])) ⟨rfl, hr2⟩
        · intro S W K hE hn hf hd hK
          have m28 := (hd 3 _ rfl (by kernel_rfl)).2
          have d28 : S.tmps.getD 28 undef = (.string v) := (hd 3 _ rfl (by kernel_rfl)).1
          have m32 := (hd 7 _ rfl (by kernel_rfl)).2
          have d32 : S.tmps.getD 32 undef = (.string v) := (hd 7 _ rfl (by kernel_rfl)).1
          refine want_free rfl ?_
          rw [Array.getD_eq_getD_getElem?] at d28 d32
          go_simp
          exact hK _ _ (Chs.refl _ _) (fun _ _ h => h) (by first | rfl | simp)
        · intro S W K hE hn hf hd hK
          have d33 : S.tmps.getD 33 undef = (.bool true) := hd 8 _ rfl (by kernel_rfl)
          refine want_free rfl ?_
          rw [Array.getD_eq_getD_getElem?] at d33
          go_simp
          exact hK _ _ (Chs.refl [(g, rdObj A c y), (h, qObj A' c' y)] _) (fun _ _ h => h) (rfl)
      · intro vs W hE hV
        have v0 : vs 0 = (.pointer (some ⟨g, 0, none⟩)) := hV 0 _ rfl
        have v1 : vs 1 = (.pointer (some ⟨w.heap.size, 3, none⟩)) := hV 1 _ rfl
        have v2 : vs 2 = (.int .i64 xm) := hV 2 _ rfl
        have v3 := hV 3 _ rfl
        have e3 : vs 3 = (.string v) := v3.1
        have v4 : vs 4 = (.pointer (some ⟨h, 0, none⟩)) := hV 4 _ rfl
        have v5 : vs 5 = (.pointer (some ⟨w.heap.size, 3, none⟩)) := hV 5 _ rfl
        have v6 : vs 6 = (.int .i64 xm) := hV 6 _ rfl
        have v7 := hV 7 _ rfl
        have e7 : vs 7 = (.string v) := v7.1
        have v8 : vs 8 = (.bool true) := hV 8 _ rfl
        have v9 : vs 9 = (.bool true) := hV 9 _ rfl
        clear hV
        set_option maxRecDepth 100000 in simp only [putAll, List.map_cons, List.map_nil, List.length_cons, List.length_nil, Nat.reduceAdd, List.range_succ, List.range_zero, List.nil_append, List.cons_append]
        set_option maxRecDepth 100000 in go_simp
        have hfin := Hfin.out W y v3.2 v7.2 hE.toMut2
        go_wp2
        go_ret
        exact ⟨rfl, hfin⟩
    · have Hp := Lib.hid (rdFlag_calls w0 B g A c x Ht.out.p)
      have Hq := Lib.hid (fun W (hW : QAt W B h A' c' x) => qFlag_calls W B h A' c' x hW)
      rw [show bothR x ⟨3, xu, xn, xm, xs, xon, xl, xi⟩ = (FlagR x).2 from rfl]
      generalize (FlagR x).2 = y at *
      generalize (FlagR x).1 = v at *
      go_enter Try.func25, Try.ntmps25
      go_wp2_with fail
      refine Hp.out.mono ?_
      rintro e w2 ⟨rfl, hr2, hm2⟩
      have Hq2 := Lib.hid (Hq.out _ (Ht.out.step1 hm2))
      go_wp2_with fail
      refine Hq2.out.mono ?_
      rintro e w3 ⟨rfl, hq3, hm3⟩
      go_wp2
      go_ret
      exact ⟨by first | rfl | simp, Hfin.out w3 _ (Ht.out.step2 hr2 hm3) hq3 (hm2.toL.trans hm3.toR)⟩
    · have Hp := Lib.hid (fun W (hW : RdAt W B g A c x) => rdTexts_calls W B g A c x hW xm xn hm1.2 hn1.2)
      have Hq := Lib.hid (fun W (hW : QAt W B h A' c' x) => qTexts_calls W B h A' c' x hW xm hm1 xn hn1)
      rw [show bothR x ⟨4, xu, xn, xm, xs, xon, xl, xi⟩ = (TextsR x xm xn).2 from rfl]
      generalize (TextsR x xm xn).2 = y at *
      generalize (TextsR x xm xn).1 = v at *
      go_enter Try.func25, Try.ntmps25
      go_wp2_with fail
      refine wp_region_stepsC (Holds [(5, g, rdObj A c x), (11, h, qObj A' c' x)]) (Chs [(g, rdObj A c y), (h, qObj A' c' y)]) (Chs.refl [(g, rdObj A c y), (h, qObj A' c' y)]) (Chs.trans [(g, rdObj A c y), (h, qObj A' c' y)]) (Chs.drew [(g, rdObj A c y), (h, qObj A' c' y)]) [.eq (.pointer (some ⟨g, 0, none⟩)), .eq (.pointer (some ⟨w.heap.size, 3, none⟩)), .eq (.int .i64 xm), .eq (.pointer (some ⟨w.heap.size, 2, none⟩)), .eq (.int .i64 xn), .slm (str) (v) (fun W => RdAt W B g A c y) Ht.out.stay1, .eq (.pointer (some ⟨h, 0, none⟩)), .eq (.pointer (some ⟨w.heap.size, 3, none⟩)), .eq (.int .i64 xm), .eq (.pointer (some ⟨w.heap.size, 2, none⟩)), .eq (.int .i64 xn), .slm (str) (v) (fun W => QAt W B h A' c' y) Ht.out.stay2, .eq (.bool true), .eq (.bool true)] (by kernel_rfl) (holds_start (holds_cons Ht.out.p.obj (holds_cons Ht.out.q.obj (holds_nil _)))) (by kernel_rfl) (fun j o' hj hd v v' w h => (none_not (by kernel_rfl) hj hd).elim) ?_ ?_
      · refine ⟨?_, ?_, ?_, ?_, ?_, ?_, ?_, ?_, ?_, ?_, ?_, ?_, ?_, ?_, trivial⟩
        · intro S W K hE hn hf hd hK
          have f0 : S.tmps.getD 0 undef = .pointer (some ⟨g, 0, none⟩) := hf 0 (by kernel_rfl)
          refine want_free rfl ?_
          rw [Array.getD_eq_getD_getElem?] at f0
          go_simp
          exact hK _ _ (Chs.refl [(g, rdObj A c y), (h, qObj A' c' y)] _) (fun _ _ h => h) (rfl)
        · intro S W K hE hn hf hd hK
          have f5 : S.tmps.getD 5 undef = .pointer (some ⟨w.heap.size, 0, none⟩) := hf 5 (by kernel_rfl)
          refine want_free rfl ?_
          rw [Array.getD_eq_getD_getElem?] at f5
          go_simp
          exact hK _ _ (Chs.refl [(g, rdObj A c y), (h, qObj A' c' y)] _) (fun _ _ h => h) (rfl)
        · intro S W K hE hn hf hd hK
          have d44 : S.tmps.getD 44 undef = (.pointer (some ⟨w.heap.size, 3, none⟩)) := hd 1 _ rfl (by kernel_rfl)
          refine want_free rfl ?_
          rw [Array.getD_eq_getD_getElem?] at d44
          have hcl := Hcm.out W hE.toMut2
          go_simp
          exact hK _ _ (Chs.refl _ _) (fun _ _ h => h) rfl
        · intro S W K hE hn hf hd hK
          have f5 : S.tmps.getD 5 undef = .pointer (some ⟨w.heap.size, 0, none⟩) := hf 5 (by kernel_rfl)
          refine want_free rfl ?_
          rw [Array.getD_eq_getD_getElem?] at f5
          go_simp
          exact hK _ _ (Chs.refl [(g, rdObj A c y), (h, qObj A' c' y)] _) (fun _ _ h => h) (rfl)
        · intro S W K hE hn hf hd hK
          have d46 : S.tmps.getD 46 undef = (.pointer (some ⟨w.heap.size, 2, none⟩)) := hd 3 _ rfl (by kernel_rfl)
          refine want_free rfl ?_
          rw [Array.getD_eq_getD_getElem?] at d46
          have hcl := Hcn.out W hE.toMut2
          go_simp
          exact hK _ _ (Chs.refl _ _) (fun _ _ h => h) rfl
        · intro S W K hE hn hf hd hK
          have hn : W.heap[g]? = some (rdObj A c x) := hn (5, g, rdObj A c x) (by simp) rfl
          have d43 : S.tmps.getD 43 undef = (.pointer (some ⟨g, 0, none⟩)) := hd 0 _ rfl (by kernel_rfl)
          have d45 : S.tmps.getD 45 undef = (.int .i64 xm) := hd 2 _ rfl (by kernel_rfl)
          have d47 : S.tmps.getD 47 undef = (.int .i64 xn) := hd 4 _ rfl (by kernel_rfl)
          refine want_free rfl ?_
          rw [Array.getD_eq_getD_getElem?] at d43 d45 d47
          go_simp
          have hW := Ht.out.chs1 hE hn
          refine (Hp.out W hW).mono ?_
          rintro e W' ⟨v, rfl, ho2, hr2, hm2⟩
          have hgl2 := hE.size
          have hat := fun j (hj : v.ownBlock = some j) => ho2.at hj
          exact hK _ _ (Ht.out.did1 hE.size hm2 hr2) (Holds.mut hm2.block (by simp [Ht.out.ne.symm])) ⟨Sl.mono ho2.sl fun j hj => by have := hat j (hj.resolve_left id); exact ⟨this.2, by simp; omega⟩, hr2⟩
        · intro S W K hE hn hf hd hK
          have f1 : S.tmps.getD 1 undef = .pointer (some ⟨h, 0, none⟩) := hf 1 (by kernel_rfl)
          refine want_free rfl ?_
          rw [Array.getD_eq_getD_getElem?] at f1
          go_simp
          exact hK _ _ (Chs.refl [(g, rdObj A c y), (h, qObj A' c' y)] _) (fun _ _ h => h) (rfl)
        · intro S W K hE hn hf hd hK
          have f5 : S.tmps.getD 5 undef = .pointer (some ⟨w.heap.size, 0, none⟩) := hf 5 (by kernel_rfl)
          refine want_free rfl ?_
          rw [Array.getD_eq_getD_getElem?] at f5
          go_simp
          exact hK _ _ (Chs.refl [(g, rdObj A c y), (h, qObj A' c' y)] _) (fun _ _ h => h) (rfl)
        · intro S W K hE hn hf hd hK
          have d50 : S.tmps.getD 50 undef = (.pointer (some ⟨w.heap.size, 3, none⟩)) := hd 7 _ rfl (by kernel_rfl)
          refine want_free rfl ?_
          rw [Array.getD_eq_getD_getElem?] at d50
          have hcl := Hcm.out W hE.toMut2
          go_simp
          exact hK _ _ (Chs.refl _ _) (fun _ _ h => h) rfl
        · intro S W K hE hn hf hd hK
          have f5 : S.tmps.getD 5 undef = .pointer (some ⟨w.heap.size, 0, none⟩) := hf 5 (by kernel_rfl)
          refine want_free rfl ?_
          rw [Array.getD_eq_getD_getElem?] at f5
          go_simp
          exact hK _ _ (Chs.refl [(g, rdObj A c y), (h, qObj A' c' y)] _) (fun _ _ h => h) (rfl)
        · intro S W K hE hn hf hd hK
          have d52 : S.tmps.getD 52 undef = (.pointer (some ⟨w.heap.size, 2, none⟩)) := hd 9 _ rfl (by kernel_rfl)
          refine want_free rfl ?_
          rw [Array.getD_eq_getD_getElem?] at d52
          have hcl := Hcn.out W hE.toMut2
          go_simp
          exact hK _ _ (Chs.refl _ _) (fun _ _ h => h) rfl
        · intro S W K hE hn hf hd hK
          have hn : W.heap[h]? = some (qObj A' c' x) := hn (11, h, qObj A' c' x) (by simp) rfl
          have d49 : S.tmps.getD 49 undef = (.pointer (some ⟨h, 0, none⟩)) := hd 6 _ rfl (by kernel_rfl)
          have d51 : S.tmps.getD 51 undef = (.int .i64 xm) := hd 8 _ rfl (by kernel_rfl)
          have d53 : S.tmps.getD 53 undef = (.int .i64 xn) := hd 10 _ rfl (by kernel_rfl)
          refine want_free rfl ?_
          rw [Array.getD_eq_getD_getElem?] at d49 d51 d53
          go_simp
          have hW := Ht.out.chs2 hE hn
          refine (Hq.out W hW).mono ?_
          rintro e W' ⟨v, rfl, ho2, hr2, hm2⟩
          have hgl2 := hE.size
          have hat := fun j (hj : v.ownBlock = some j) => ho2.at hj
          exact hK _ _ (Ht.out.did2 hE.size hm2 hr2) (Holds.mut hm2.block (by simp [Ht.out.ne])) ⟨Sl.mono ho2.sl fun j hj => by have := hat j (hj.resolve_left id); exact ⟨this.2, by simp; omega⟩, hr2⟩
        · intro S W K hE hn hf hd hK
          obtain ⟨⟨A48, c48, d48, l48, m48, r48⟩, _⟩ := hd 5 _ rfl (by kernel_rfl)
          change S.tmps.getD 48 undef = _ at d48
          obtain ⟨⟨A54, c54, d54, l54, m54, r54⟩, _⟩ := hd 11 _ rfl (by kernel_rfl)
          change S.tmps.getD 54 undef = _ at d54
          refine want_free rfl ?_
          rw [Array.getD_eq_getD_getElem?] at d48 d54
          go_simp
          refine (Same_calls A48 c48 A54 c54 (v) _ _ W (Nat.le_trans l48 m48) r48 r54).mono ?_
          rintro e W' ⟨rfl, nd, rfl⟩
          exact hK _ _ (Chs.of (Hcs.out _ _ W hE) (Drawn.below ⟨nd, rfl⟩)) (fun _ _ h => h) rfl
        · intro S W K hE hn hf hd hK
          have d55 : S.tmps.getD 55 undef = (.bool true) := hd 12 _ rfl (by kernel_rfl)
          refine want_free rfl ?_
          rw [Array.getD_eq_getD_getElem?] at d55
          go_simp
          exact hK _ _ (Chs.refl [(g, rdObj A c y), (h, qObj A' c' y)] _) (fun _ _ h => h) (rfl)
      · intro vs W hE hV
        have v0 : vs 0 = (.pointer (some ⟨g, 0, none⟩)) := hV 0 _ rfl
        have v1 : vs 1 = (.pointer (some ⟨w.heap.size, 3, none⟩)) := hV 1 _ rfl
        have v2 : vs 2 = (.int .i64 xm) := hV 2 _ rfl
        have v3 : vs 3 = (.pointer (some ⟨w.heap.size, 2, none⟩)) := hV 3 _ rfl
        have v4 : vs 4 = (.int .i64 xn) := hV 4 _ rfl
        have v5 := hV 5 _ rfl
        have v6 : vs 6 = (.pointer (some ⟨h, 0, none⟩)) := hV 6 _ rfl
        have v7 : vs 7 = (.pointer (some ⟨w.heap.size, 3, none⟩)) := hV 7 _ rfl
        have v8 : vs 8 = (.int .i64 xm) := hV 8 _ rfl
        have v9 : vs 9 = (.pointer (some ⟨w.heap.size, 2, none⟩)) := hV 9 _ rfl
        have v10 : vs 10 = (.int .i64 xn) := hV 10 _ rfl
        have v11 := hV 11 _ rfl
        have v12 : vs 12 = (.bool true) := hV 12 _ rfl
        have v13 : vs 13 = (.bool true) := hV 13 _ rfl
        clear hV
        set_option maxRecDepth 100000 in simp only [putAll, List.map_cons, List.map_nil, List.length_cons, List.length_nil, Nat.reduceAdd, List.range_succ, List.range_zero, List.nil_append, List.cons_append]
        set_option maxRecDepth 100000 in go_simp
        have hfin := Hfin.out W y v5.2 v11.2 hE.toMut2
        go_wp2
        go_ret
        exact ⟨rfl, hfin⟩
    · have Hp := Lib.hid (fun W (hW : RdAt W B g A c x) => rdInts_calls W B g A c x hW xm hm1.2)
      have Hq := Lib.hid (fun W (hW : QAt W B h A' c' x) => qInts_calls W B h A' c' x hW xm hm1)
      rw [show bothR x ⟨5, xu, xn, xm, xs, xon, xl, xi⟩ = (IntsR x xm).2 from rfl]
      generalize (IntsR x xm).2 = y at *
      generalize (IntsR x xm).1 = v at *
      go_enter Try.func25, Try.ntmps25
      go_wp2_with fail
      refine wp_region_stepsC (Holds [(3, g, rdObj A c x), (7, h, qObj A' c' x)]) (Chs [(g, rdObj A c y), (h, qObj A' c' y)]) (Chs.refl [(g, rdObj A c y), (h, qObj A' c' y)]) (Chs.trans [(g, rdObj A c y), (h, qObj A' c' y)]) (Chs.drew [(g, rdObj A c y), (h, qObj A' c' y)]) [.eq (.pointer (some ⟨g, 0, none⟩)), .eq (.pointer (some ⟨w.heap.size, 3, none⟩)), .eq (.int .i64 xm), .slm (num .i64) (v) (fun W => RdAt W B g A c y) Ht.out.stay1, .eq (.pointer (some ⟨h, 0, none⟩)), .eq (.pointer (some ⟨w.heap.size, 3, none⟩)), .eq (.int .i64 xm), .slm (num .i64) (v) (fun W => QAt W B h A' c' y) Ht.out.stay2, .eq (.bool true), .eq (.bool true)] (by kernel_rfl) (holds_start (holds_cons Ht.out.p.obj (holds_cons Ht.out.q.obj (holds_nil _)))) (by kernel_rfl) (fun j o' hj hd v v' w h => (none_not (by kernel_rfl) hj hd).elim) ?_ ?_
      · refine ⟨?_, ?_, ?_, ?_, ?_, ?_, ?_, ?_, ?_, ?_, trivial⟩
        · intro S W K hE hn hf hd hK
          have f0 : S.tmps.getD 0 undef = .pointer (some ⟨g, 0, none⟩) := hf 0 (by kernel_rfl)
          refine want_free rfl ?_
          rw [Array.getD_eq_getD_getElem?] at f0
          go_simp
          exact hK _ _ (Chs.refl [(g, rdObj A c y), (h, qObj A' c' y)] _) (fun _ _ h => h) (rfl)
        · intro S W K hE hn hf hd hK
          have f5 : S.tmps.getD 5 undef = .pointer (some ⟨w.heap.size, 0, none⟩) := hf 5 (by kernel_rfl)
          refine want_free rfl ?_
          rw [Array.getD_eq_getD_getElem?] at f5
          go_simp
          exact hK _ _ (Chs.refl [(g, rdObj A c y), (h, qObj A' c' y)] _) (fun _ _ h => h) (rfl)
        · intro S W K hE hn hf hd hK
          have d59 : S.tmps.getD 59 undef = (.pointer (some ⟨w.heap.size, 3, none⟩)) := hd 1 _ rfl (by kernel_rfl)
          refine want_free rfl ?_
          rw [Array.getD_eq_getD_getElem?] at d59
          have hcl := Hcm.out W hE.toMut2
          go_simp
          exact hK _ _ (Chs.refl _ _) (fun _ _ h => h) rfl
        · intro S W K hE hn hf hd hK
          have hn : W.heap[g]? = some (rdObj A c x) := hn (3, g, rdObj A c x) (by simp) rfl
          have d58 : S.tmps.getD 58 undef = (.pointer (some ⟨g, 0, none⟩)) := hd 0 _ rfl (by kernel_rfl)
          have d60 : S.tmps.getD 60 undef = (.int .i64 xm) := hd 2 _ rfl (by kernel_rfl)
          refine want_free rfl ?_
          rw [Array.getD_eq_getD_getElem?] at d58 d60
          go_simp
          have hW := Ht.out.chs1 hE hn
          refine (Hp.out W hW).mono ?_
          rintro e W' ⟨v, rfl, ho2, hr2, hm2⟩
          have hgl2 := hE.size
          have hat := fun j (hj : v.ownBlock = some j) => ho2.at hj
          exact hK _ _ (Ht.out.did1 hE.size hm2 hr2) (Holds.mut hm2.block (by simp [Ht.out.ne.symm])) ⟨Sl.mono ho2.sl fun j hj => by have := hat j (hj.resolve_left id); exact ⟨this.2, by simp; omega⟩, hr2⟩
        · intro S W K hE hn hf hd hK
          have f1 : S.tmps.getD 1 undef = .pointer (some ⟨h, 0, none⟩) := hf 1 (by kernel_rfl)
          refine want_free rfl ?_
          rw [Array.getD_eq_getD_getElem?] at f1
          go_simp
          exact hK _ _ (Chs.refl [(g, rdObj A c y), (h, qObj A' c' y)] _) (fun _ _ h => h) (rfl)
        · intro S W K hE hn hf hd hK
          have f5 : S.tmps.getD 5 undef = .pointer (some ⟨w.heap.size, 0, none⟩) := hf 5 (by kernel_rfl)
          refine want_free rfl ?_
          rw [Array.getD_eq_getD_getElem?] at f5
          go_simp
          exact hK _ _ (Chs.refl [(g, rdObj A c y), (h, qObj A' c' y)] _) (fun _ _ h => h) (rfl)
        · intro S W K hE hn hf hd hK
          have d63 : S.tmps.getD 63 undef = (.pointer (some ⟨w.heap.size, 3, none⟩)) := hd 5 _ rfl (by kernel_rfl)
          refine want_free rfl ?_
          rw [Array.getD_eq_getD_getElem?] at d63
          have hcl := Hcm.out W hE.toMut2
          go_simp
          exact hK _ _ (Chs.refl _ _) (fun _ _ h => h) rfl
        · intro S W K hE hn hf hd hK
          have hn : W.heap[h]? = some (qObj A' c' x) := hn (7, h, qObj A' c' x) (by simp) rfl
          have d62 : S.tmps.getD 62 undef = (.pointer (some ⟨h, 0, none⟩)) := hd 4 _ rfl (by kernel_rfl)
          have d64 : S.tmps.getD 64 undef = (.int .i64 xm) := hd 6 _ rfl (by kernel_rfl)
          refine want_free rfl ?_
          rw [Array.getD_eq_getD_getElem?] at d62 d64
          go_simp
          have hW := Ht.out.chs2 hE hn
          refine (Hq.out W hW).mono ?_
          rintro e W' ⟨v, rfl, ho2, hr2, hm2⟩
          have hgl2 := hE.size
          have hat := fun j (hj : v.ownBlock = some j) => ho2.at hj
          exact hK _ _ (Ht.out.did2 hE.size hm2 hr2) (Holds.mut hm2.block (by simp [Ht.out.ne])) ⟨Sl.mono ho2.sl fun j hj => by have := hat j (hj.resolve_left id); exact ⟨this.2, by simp; omega⟩, hr2⟩
        · intro S W K hE hn hf hd hK
          obtain ⟨⟨A61, c61, d61, l61, m61, r61⟩, _⟩ := hd 3 _ rfl (by kernel_rfl)
          change S.tmps.getD 61 undef = _ at d61
          obtain ⟨⟨A65, c65, d65, l65, m65, r65⟩, _⟩ := hd 7 _ rfl (by kernel_rfl)
          change S.tmps.getD 65 undef = _ at d65
          refine want_free rfl ?_
          rw [Array.getD_eq_getD_getElem?] at d61 d65
          go_simp
          refine (SameInts_calls A61 c61 A65 c65 (v) _ _ W (Nat.le_trans l61 m61) r61 r65).mono ?_
          rintro e W' ⟨rfl, nd, rfl⟩
          exact hK _ _ (Chs.of (Hcs.out _ _ W hE) (Drawn.below ⟨nd, rfl⟩)) (fun _ _ h => h) rfl
        · intro S W K hE hn hf hd hK
          have d66 : S.tmps.getD 66 undef = (.bool true) := hd 8 _ rfl (by kernel_rfl)
          refine want_free rfl ?_
          rw [Array.getD_eq_getD_getElem?] at d66
          go_simp
          exact hK _ _ (Chs.refl [(g, rdObj A c y), (h, qObj A' c' y)] _) (fun _ _ h => h) (rfl)
      · intro vs W hE hV
        have v0 : vs 0 = (.pointer (some ⟨g, 0, none⟩)) := hV 0 _ rfl
        have v1 : vs 1 = (.pointer (some ⟨w.heap.size, 3, none⟩)) := hV 1 _ rfl
        have v2 : vs 2 = (.int .i64 xm) := hV 2 _ rfl
        have v3 := hV 3 _ rfl
        have v4 : vs 4 = (.pointer (some ⟨h, 0, none⟩)) := hV 4 _ rfl
        have v5 : vs 5 = (.pointer (some ⟨w.heap.size, 3, none⟩)) := hV 5 _ rfl
        have v6 : vs 6 = (.int .i64 xm) := hV 6 _ rfl
        have v7 := hV 7 _ rfl
        have v8 : vs 8 = (.bool true) := hV 8 _ rfl
        have v9 : vs 9 = (.bool true) := hV 9 _ rfl
        clear hV
        set_option maxRecDepth 100000 in simp only [putAll, List.map_cons, List.map_nil, List.length_cons, List.length_nil, Nat.reduceAdd, List.range_succ, List.range_zero, List.nil_append, List.cons_append]
        set_option maxRecDepth 100000 in go_simp
        have hfin := Hfin.out W y v3.2 v7.2 hE.toMut2
        go_wp2
        go_ret
        exact ⟨rfl, hfin⟩
    · have Hp := Lib.hid (fun W (hW : RdAt W B g A c x) => rdWithin_calls W B g A c x hW xn xm)
      have Hq := Lib.hid (fun W (hW : QAt W B h A' c' x) => qWithin_calls W B h A' c' x hW xn xm)
      rw [show bothR x ⟨6, xu, xn, xm, xs, xon, xl, xi⟩ = (WithinR x xn xm).2 from rfl]
      generalize (WithinR x xn xm).2 = y at *
      generalize (WithinR x xn xm).1 = v at *
      go_enter Try.func25, Try.ntmps25
      go_wp2_with fail
      refine wp_region_stepsC (Holds [(5, g, rdObj A c x), (11, h, qObj A' c' x)]) (Chs [(g, rdObj A c y), (h, qObj A' c' y)]) (Chs.refl [(g, rdObj A c y), (h, qObj A' c' y)]) (Chs.trans [(g, rdObj A c y), (h, qObj A' c' y)]) (Chs.drew [(g, rdObj A c y), (h, qObj A' c' y)]) [.eq (.pointer (some ⟨g, 0, none⟩)), .eq (.pointer (some ⟨w.heap.size, 2, none⟩)), .eq (.int .i64 xn), .eq (.pointer (some ⟨w.heap.size, 3, none⟩)), .eq (.int .i64 xm), .eqm (.int .i64 v) (fun W => RdAt W B g A c y) Ht.out.stay1, .eq (.pointer (some ⟨h, 0, none⟩)), .eq (.pointer (some ⟨w.heap.size, 2, none⟩)), .eq (.int .i64 xn), .eq (.pointer (some ⟨w.heap.size, 3, none⟩)), .eq (.int .i64 xm), .eqm (.int .i64 v) (fun W => QAt W B h A' c' y) Ht.out.stay2, .eq (.bool true), .eq (.bool true)] (by kernel_rfl) (holds_start (holds_cons Ht.out.p.obj (holds_cons Ht.out.q.obj (holds_nil _)))) (by kernel_rfl) (fun j o' hj hd v v' w h => (none_not (by kernel_rfl) hj hd).elim) ?_ ?_
      · refine ⟨?_, ?_, ?_, ?_, ?_, ?_, ?_, ?_, ?_, ?_, ?_, ?_, ?_, ?_, trivial⟩
        · intro S W K hE hn hf hd hK
          have f0 : S.tmps.getD 0 undef = .pointer (some ⟨g, 0, none⟩) := hf 0 (by kernel_rfl)
          refine want_free rfl ?_
          rw [Array.getD_eq_getD_getElem?] at f0
          go_simp
          exact hK _ _ (Chs.refl [(g, rdObj A c y), (h, qObj A' c' y)] _) (fun _ _ h => h) (rfl)
        · intro S W K hE hn hf hd hK
          have f5 : S.tmps.getD 5 undef = .pointer (some ⟨w.heap.size, 0, none⟩) := hf 5 (by kernel_rfl)
          refine want_free rfl ?_
          rw [Array.getD_eq_getD_getElem?] at f5
          go_simp
          exact hK _ _ (Chs.refl [(g, rdObj A c y), (h, qObj A' c' y)] _) (fun _ _ h => h) (rfl)
        · intro S W K hE hn hf hd hK
          have d70 : S.tmps.getD 70 undef = (.pointer (some ⟨w.heap.size, 2, none⟩)) := hd 1 _ rfl (by kernel_rfl)
          refine want_free rfl ?_
          rw [Array.getD_eq_getD_getElem?] at d70
          have hcl := Hcn.out W hE.toMut2
          go_simp
          exact hK _ _ (Chs.refl _ _) (fun _ _ h => h) rfl
        · intro S W K hE hn hf hd hK
          have f5 : S.tmps.getD 5 undef = .pointer (some ⟨w.heap.size, 0, none⟩) := hf 5 (by kernel_rfl)
          refine want_free rfl ?_
          rw [Array.getD_eq_getD_getElem?] at f5
          go_simp
          exact hK _ _ (Chs.refl [(g, rdObj A c y), (h, qObj A' c' y)] _) (fun _ _ h => h) (rfl)
        · intro S W K hE hn hf hd hK
          have d72 : S.tmps.getD 72 undef = (.pointer (some ⟨w.heap.size, 3, none⟩)) := hd 3 _ rfl (by kernel_rfl)
          refine want_free rfl ?_
          rw [Array.getD_eq_getD_getElem?] at d72
          have hcl := Hcm.out W hE.toMut2
          go_simp
          exact hK _ _ (Chs.refl _ _) (fun _ _ h => h) rfl
        · intro S W K hE hn hf hd hK
          have hn : W.heap[g]? = some (rdObj A c x) := hn (5, g, rdObj A c x) (by simp) rfl
          have d69 : S.tmps.getD 69 undef = (.pointer (some ⟨g, 0, none⟩)) := hd 0 _ rfl (by kernel_rfl)
          have d71 : S.tmps.getD 71 undef = (.int .i64 xn) := hd 2 _ rfl (by kernel_rfl)
          have d73 : S.tmps.getD 73 undef = (.int .i64 xm) := hd 4 _ rfl (by kernel_rfl)
          refine want_free rfl ?_
          rw [Array.getD_eq_getD_getElem?] at d69 d71 d73
          go_simp
          refine (Hp.out W (Ht.out.chs1 hE hn)).mono ?_
          rintro e W' ⟨rfl, hr2, hm2⟩
          exact hK _ _ (Ht.out.did1 hE.size hm2 hr2) (Holds.mut hm2.block (by simp [Ht.out.ne.symm])) ⟨rfl, hr2⟩
        · intro S W K hE hn hf hd hK
          have f1 : S.tmps.getD 1 undef = .pointer (some ⟨h, 0, none⟩) := hf 1 (by kernel_rfl)
          refine want_free rfl ?_
          rw [Array.getD_eq_getD_getElem?] at f1
          go_simp
          exact hK _ _ (Chs.refl [(g, rdObj A c y), (h, qObj A' c' y)] _) (fun _ _ h => h) (rfl)
        · intro S W K hE hn hf hd hK
          have f5 : S.tmps.getD 5 undef = .pointer (some ⟨w.heap.size, 0, none⟩) := hf 5 (by kernel_rfl)
          refine want_free rfl ?_
          rw [Array.getD_eq_getD_getElem?] at f5
          go_simp
          exact hK _ _ (Chs.refl [(g, rdObj A c y), (h, qObj A' c' y)] _) (fun _ _ h => h) (rfl)
        · intro S W K hE hn hf hd hK
          have d76 : S.tmps.getD 76 undef = (.pointer (some ⟨w.heap.size, 2, none⟩)) := hd 7 _ rfl (by kernel_rfl)
          refine want_free rfl ?_
          rw [Array.getD_eq_getD_getElem?] at d76
          have hcl := Hcn.out W hE.toMut2
          go_simp
          exact hK _ _ (Chs.refl _ _) (fun _ _ h => h) rfl
        · intro S W K hE hn hf hd hK
          have f5 : S.tmps.getD 5 undef = .pointer (some ⟨w.heap.size, 0, none⟩) := hf 5 (by kernel_rfl)
          refine want_free rfl ?_
          rw [Array.getD_eq_getD_getElem?] at f5
          go_simp
          exact hK _ _ (Chs.refl [(g, rdObj A c y), (h, qObj A' c' y)] _) (fun _ _ h => h) (rfl)
        · intro S W K hE hn hf hd hK
          have d78 : S.tmps.getD 78 undef = (.pointer (some ⟨w.heap.size, 3, none⟩)) := hd 9 _ rfl (by kernel_rfl)
          refine want_free rfl ?_
          rw [Array.getD_eq_getD_getElem?] at d78
          have hcl := Hcm.out W hE.toMut2
          go_simp
          exact hK _ _ (Chs.refl _ _) (fun _ _ h => h) rfl
        · intro S W K hE hn hf hd hK
          have hn : W.heap[h]? = some (qObj A' c' x) := hn (11, h, qObj A' c' x) (by simp) rfl
          have d75 : S.tmps.getD 75 undef = (.pointer (some ⟨h, 0, none⟩)) := hd 6 _ rfl (by kernel_rfl)
          have d77 : S.tmps.getD 77 undef = (.int .i64 xn) := hd 8 _ rfl (by kernel_rfl)
          have d79 : S.tmps.getD 79 undef = (.int .i64 xm) := hd 10 _ rfl (by kernel_rfl)
          refine want_free rfl ?_
          rw [Array.getD_eq_getD_getElem?] at d75 d77 d79
          go_simp
          refine (Hq.out W (Ht.out.chs2 hE hn)).mono ?_
          rintro e W' ⟨rfl, hr2, hm2⟩
          exact hK _ _ (Ht.out.did2 hE.size hm2 hr2) (Holds.mut hm2.block (by simp [Ht.out.ne])) ⟨rfl, hr2⟩
        · intro S W K hE hn hf hd hK
          have m74 := (hd 5 _ rfl (by kernel_rfl)).2
          have d74 : S.tmps.getD 74 undef = (.int .i64 v) := (hd 5 _ rfl (by kernel_rfl)).1
          have m80 := (hd 11 _ rfl (by kernel_rfl)).2
          have d80 : S.tmps.getD 80 undef = (.int .i64 v) := (hd 11 _ rfl (by kernel_rfl)).1
          refine want_free rfl ?_
          rw [Array.getD_eq_getD_getElem?] at d74 d80
          go_simp
          exact hK _ _ (Chs.refl _ _) (fun _ _ h => h) (by first | rfl | simp)
        · intro S W K hE hn hf hd hK
          have d81 : S.tmps.getD 81 undef = (.bool true) := hd 12 _ rfl (by kernel_rfl)
          refine want_free rfl ?_
          rw [Array.getD_eq_getD_getElem?] at d81
          go_simp
          exact hK _ _ (Chs.refl [(g, rdObj A c y), (h, qObj A' c' y)] _) (fun _ _ h => h) (rfl)
      · intro vs W hE hV
        have v0 : vs 0 = (.pointer (some ⟨g, 0, none⟩)) := hV 0 _ rfl
        have v1 : vs 1 = (.pointer (some ⟨w.heap.size, 2, none⟩)) := hV 1 _ rfl
        have v2 : vs 2 = (.int .i64 xn) := hV 2 _ rfl
        have v3 : vs 3 = (.pointer (some ⟨w.heap.size, 3, none⟩)) := hV 3 _ rfl
        have v4 : vs 4 = (.int .i64 xm) := hV 4 _ rfl
        have v5 := hV 5 _ rfl
        have e5 : vs 5 = (.int .i64 v) := v5.1
        have v6 : vs 6 = (.pointer (some ⟨h, 0, none⟩)) := hV 6 _ rfl
        have v7 : vs 7 = (.pointer (some ⟨w.heap.size, 2, none⟩)) := hV 7 _ rfl
        have v8 : vs 8 = (.int .i64 xn) := hV 8 _ rfl
        have v9 : vs 9 = (.pointer (some ⟨w.heap.size, 3, none⟩)) := hV 9 _ rfl
        have v10 : vs 10 = (.int .i64 xm) := hV 10 _ rfl
        have v11 := hV 11 _ rfl
        have e11 : vs 11 = (.int .i64 v) := v11.1
        have v12 : vs 12 = (.bool true) := hV 12 _ rfl
        have v13 : vs 13 = (.bool true) := hV 13 _ rfl
        clear hV
        set_option maxRecDepth 100000 in simp only [putAll, List.map_cons, List.map_nil, List.length_cons, List.length_nil, Nat.reduceAdd, List.range_succ, List.range_zero, List.nil_append, List.cons_append]
        set_option maxRecDepth 100000 in go_simp
        have hfin := Hfin.out W y v5.2 v11.2 hE.toMut2
        go_wp2
        go_ret
        exact ⟨rfl, hfin⟩
    · have Hp := Lib.hid (fun W (hW : RdAt W B g A c x) => rdBytes_calls W B g A c x hW xm)
      have Hq := Lib.hid (fun W (hW : QAt W B h A' c' x) => qBytes_calls W B h A' c' x hW xm hm1)
      rw [show bothR x ⟨7, xu, xn, xm, xs, xon, xl, xi⟩ = BytesR x xm from rfl]
      generalize BytesR x xm = y at *
      generalize bytesL x xm = v at *
      go_enter Try.func25, Try.ntmps25
      go_wp2_with fail
      refine wp_region_stepsC (Holds [(3, g, rdObj A c x), (8, h, qObj A' c' x)]) (Chs [(g, rdObj A c y), (h, qObj A' c' y)]) (Chs.refl [(g, rdObj A c y), (h, qObj A' c' y)]) (Chs.trans [(g, rdObj A c y), (h, qObj A' c' y)]) (Chs.drew [(g, rdObj A c y), (h, qObj A' c' y)]) [.eq (.pointer (some ⟨g, 0, none⟩)), .eq (.pointer (some ⟨w.heap.size, 3, none⟩)), .eq (.int .i64 xm), .slm (kb) (v) (fun W => RdAt W B g A c y) Ht.out.stay1, .eq (.string ⟨(v).toArray⟩), .eq (.pointer (some ⟨h, 0, none⟩)), .eq (.pointer (some ⟨w.heap.size, 3, none⟩)), .eq (.int .i64 xm), .slm (kb) (v) (fun W => QAt W B h A' c' y) Ht.out.stay2, .eq (.string ⟨(v).toArray⟩), .eq (.bool true), .eq (.bool true)] (by kernel_rfl) (holds_start (holds_cons Ht.out.p.obj (holds_cons Ht.out.q.obj (holds_nil _)))) (by kernel_rfl) (fun j o' hj hd v v' w h => (none_not (by kernel_rfl) hj hd).elim) ?_ ?_
      · refine ⟨?_, ?_, ?_, ?_, ?_, ?_, ?_, ?_, ?_, ?_, ?_, ?_, trivial⟩
        · intro S W K hE hn hf hd hK
          have f0 : S.tmps.getD 0 undef = .pointer (some ⟨g, 0, none⟩) := hf 0 (by kernel_rfl)
          refine want_free rfl ?_
          rw [Array.getD_eq_getD_getElem?] at f0
          go_simp
          exact hK _ _ (Chs.refl [(g, rdObj A c y), (h, qObj A' c' y)] _) (fun _ _ h => h) (rfl)
        · intro S W K hE hn hf hd hK
          have f5 : S.tmps.getD 5 undef = .pointer (some ⟨w.heap.size, 0, none⟩) := hf 5 (by kernel_rfl)
          refine want_free rfl ?_
          rw [Array.getD_eq_getD_getElem?] at f5
          go_simp
          exact hK _ _ (Chs.refl [(g, rdObj A c y), (h, qObj A' c' y)] _) (fun _ _ h => h) (rfl)
        · intro S W K hE hn hf hd hK
          have d85 : S.tmps.getD 85 undef = (.pointer (some ⟨w.heap.size, 3, none⟩)) := hd 1 _ rfl (by kernel_rfl)
          refine want_free rfl ?_
          rw [Array.getD_eq_getD_getElem?] at d85
          have hcl := Hcm.out W hE.toMut2
          go_simp
          exact hK _ _ (Chs.refl _ _) (fun _ _ h => h) rfl
        · intro S W K hE hn hf hd hK
          have hn : W.heap[g]? = some (rdObj A c x) := hn (3, g, rdObj A c x) (by simp) rfl
          have d84 : S.tmps.getD 84 undef = (.pointer (some ⟨g, 0, none⟩)) := hd 0 _ rfl (by kernel_rfl)
          have d86 : S.tmps.getD 86 undef = (.int .i64 xm) := hd 2 _ rfl (by kernel_rfl)
          refine want_free rfl ?_
          rw [Array.getD_eq_getD_getElem?] at d84 d86
          go_simp
          have hW := Ht.out.chs1 hE hn
          refine (Hp.out W hW).mono ?_
          rintro e W' ⟨v, rfl, ho2, hr2, hm2⟩
          have hgl2 := hE.size
          have hat := fun j (hj : v.ownBlock = some j) => ho2.at hj
          exact hK _ _ (Ht.out.did1 hE.size hm2 hr2) (Holds.mut hm2.block (by simp [Ht.out.ne.symm])) ⟨Sl.mono ho2.sl fun j hj => by have := hat j (hj.resolve_left id); exact ⟨this.2, by simp; omega⟩, hr2⟩
        · intro S W K hE hn hf hd hK
          obtain ⟨⟨A87, c87, d87, l87, m87, r87⟩, _⟩ := hd 3 _ rfl (by kernel_rfl)
          change S.tmps.getD 87 undef = _ at d87
          refine want_free rfl ?_
          rw [Array.getD_eq_getD_getElem?] at d87
          have hcv := conv_str (r87) 23 9 5 c87 Try.underlying23 Try.underlying5 Try.underlying9
          go_simp
          exact hK _ _ (Chs.refl _ _) (fun _ _ h => h) rfl
        · intro S W K hE hn hf hd hK
          have f1 : S.tmps.getD 1 undef = .pointer (some ⟨h, 0, none⟩) := hf 1 (by kernel_rfl)
          refine want_free rfl ?_
          rw [Array.getD_eq_getD_getElem?] at f1
          go_simp
          exact hK _ _ (Chs.refl [(g, rdObj A c y), (h, qObj A' c' y)] _) (fun _ _ h => h) (rfl)
        · intro S W K hE hn hf hd hK
          have f5 : S.tmps.getD 5 undef = .pointer (some ⟨w.heap.size, 0, none⟩) := hf 5 (by kernel_rfl)
          refine want_free rfl ?_
          rw [Array.getD_eq_getD_getElem?] at f5
          go_simp
          exact hK _ _ (Chs.refl [(g, rdObj A c y), (h, qObj A' c' y)] _) (fun _ _ h => h) (rfl)
        · intro S W K hE hn hf hd hK
          have d90 : S.tmps.getD 90 undef = (.pointer (some ⟨w.heap.size, 3, none⟩)) := hd 6 _ rfl (by kernel_rfl)
          refine want_free rfl ?_
          rw [Array.getD_eq_getD_getElem?] at d90
          have hcl := Hcm.out W hE.toMut2
          go_simp
          exact hK _ _ (Chs.refl _ _) (fun _ _ h => h) rfl
        · intro S W K hE hn hf hd hK
          have hn : W.heap[h]? = some (qObj A' c' x) := hn (8, h, qObj A' c' x) (by simp) rfl
          have d89 : S.tmps.getD 89 undef = (.pointer (some ⟨h, 0, none⟩)) := hd 5 _ rfl (by kernel_rfl)
          have d91 : S.tmps.getD 91 undef = (.int .i64 xm) := hd 7 _ rfl (by kernel_rfl)
          refine want_free rfl ?_
          rw [Array.getD_eq_getD_getElem?] at d89 d91
          go_simp
          have hW := Ht.out.chs2 hE hn
          refine (Hq.out W hW).mono ?_
          rintro e W' ⟨v, rfl, ho2, hr2, hm2⟩
          have hgl2 := hE.size
          have hat := fun j (hj : v.ownBlock = some j) => ho2.at hj
          exact hK _ _ (Ht.out.did2 hE.size hm2 hr2) (Holds.mut hm2.block (by simp [Ht.out.ne])) ⟨Sl.mono ho2.sl fun j hj => by have := hat j (hj.resolve_left id); exact ⟨this.2, by simp; omega⟩, hr2⟩
        · intro S W K hE hn hf hd hK
          obtain ⟨⟨A92, c92, d92, l92, m92, r92⟩, _⟩ := hd 8 _ rfl (by kernel_rfl)
          change S.tmps.getD 92 undef = _ at d92
          refine want_free rfl ?_
          rw [Array.getD_eq_getD_getElem?] at d92
          have hcv := conv_str (r92) 23 9 5 c92 Try.underlying23 Try.underlying5 Try.underlying9
          go_simp
          exact hK _ _ (Chs.refl _ _) (fun _ _ h => h) rfl
        · intro S W K hE hn hf hd hK
          have d88 : S.tmps.getD 88 undef = (.string ⟨(v).toArray⟩) := hd 4 _ rfl (by kernel_rfl)
          have d93 : S.tmps.getD 93 undef = (.string ⟨(v).toArray⟩) := hd 9 _ rfl (by kernel_rfl)
          refine want_free rfl ?_
          rw [Array.getD_eq_getD_getElem?] at d88 d93
          go_simp
          exact hK _ _ (Chs.refl _ _) (fun _ _ h => h) (by first | rfl | simp)
        · intro S W K hE hn hf hd hK
          have d94 : S.tmps.getD 94 undef = (.bool true) := hd 10 _ rfl (by kernel_rfl)
          refine want_free rfl ?_
          rw [Array.getD_eq_getD_getElem?] at d94
          go_simp
          exact hK _ _ (Chs.refl [(g, rdObj A c y), (h, qObj A' c' y)] _) (fun _ _ h => h) (rfl)
      · intro vs W hE hV
        have v0 : vs 0 = (.pointer (some ⟨g, 0, none⟩)) := hV 0 _ rfl
        have v1 : vs 1 = (.pointer (some ⟨w.heap.size, 3, none⟩)) := hV 1 _ rfl
        have v2 : vs 2 = (.int .i64 xm) := hV 2 _ rfl
        have v3 := hV 3 _ rfl
        have v4 : vs 4 = (.string ⟨(v).toArray⟩) := hV 4 _ rfl
        have v5 : vs 5 = (.pointer (some ⟨h, 0, none⟩)) := hV 5 _ rfl
        have v6 : vs 6 = (.pointer (some ⟨w.heap.size, 3, none⟩)) := hV 6 _ rfl
        have v7 : vs 7 = (.int .i64 xm) := hV 7 _ rfl
        have v8 := hV 8 _ rfl
        have v9 : vs 9 = (.string ⟨(v).toArray⟩) := hV 9 _ rfl
        have v10 : vs 10 = (.bool true) := hV 10 _ rfl
        have v11 : vs 11 = (.bool true) := hV 11 _ rfl
        clear hV
        set_option maxRecDepth 100000 in simp only [putAll, List.map_cons, List.map_nil, List.length_cons, List.length_nil, Nat.reduceAdd, List.range_succ, List.range_zero, List.nil_append, List.cons_append]
        set_option maxRecDepth 100000 in go_simp
        have hfin := Hfin.out W y v3.2 v8.2 hE.toMut2
        go_wp2
        go_ret
        exact ⟨rfl, hfin⟩
    · have Hp := Lib.hid (rdByte_calls w0 B g A c x Ht.out.p)
      have Hq := Lib.hid (fun W (hW : QAt W B h A' c' x) => qByte_calls W B h A' c' x hW)
      rw [show bothR x ⟨8, xu, xn, xm, xs, xon, xl, xi⟩ = (ByteR x).2 from rfl]
      generalize (ByteR x).2 = y at *
      generalize (ByteR x).1 = v at *
      go_enter Try.func25, Try.ntmps25
      go_wp2_with fail
      refine Hp.out.mono ?_
      rintro e w2 ⟨rfl, hr2, hm2⟩
      have Hq2 := Lib.hid (Hq.out _ (Ht.out.step1 hm2))
      go_wp2_with fail
      refine Hq2.out.mono ?_
      rintro e w3 ⟨rfl, hq3, hm3⟩
      go_wp2
      go_ret
      exact ⟨by first | rfl | simp, Hfin.out w3 _ (Ht.out.step2 hr2 hm3) hq3 (hm2.toL.trans hm3.toR)⟩
    · have Hp := Lib.hid (fun W (hW : RdAt W B g A c x) => rdRest_calls W B g A c x hW)
      have Hq := Lib.hid (fun W (hW : QAt W B h A' c' x) => qRest_calls W B h A' c' x hW)
      rw [show bothR x ⟨9, xu, xn, xm, xs, xon, xl, xi⟩ = RestR x from rfl]
      generalize RestR x = y at *
      generalize restL x = v at *
      go_enter Try.func25, Try.ntmps25
      go_wp2_with fail
      refine wp_region_stepsC (Holds [(1, g, rdObj A c x), (4, h, qObj A' c' x)]) (Chs [(g, rdObj A c y), (h, qObj A' c' y)]) (Chs.refl [(g, rdObj A c y), (h, qObj A' c' y)]) (Chs.trans [(g, rdObj A c y), (h, qObj A' c' y)]) (Chs.drew [(g, rdObj A c y), (h, qObj A' c' y)]) [.eq (.pointer (some ⟨g, 0, none⟩)), .slm (kb) (v) (fun W => RdAt W B g A c y) Ht.out.stay1, .eq (.string ⟨(v).toArray⟩), .eq (.pointer (some ⟨h, 0, none⟩)), .slm (kb) (v) (fun W => QAt W B h A' c' y) Ht.out.stay2, .eq (.string ⟨(v).toArray⟩), .eq (.bool true), .eq (.bool true)] (by kernel_rfl) (holds_start (holds_cons Ht.out.p.obj (holds_cons Ht.out.q.obj (holds_nil _)))) (by kernel_rfl) (fun j o' hj hd v v' w h => (none_not (by kernel_rfl) hj hd).elim) ?_ ?_
      · refine ⟨?_, ?_, ?_, ?_, ?_, ?_, ?_, ?_, trivial⟩
        · intro S W K hE hn hf hd hK
          have f0 : S.tmps.getD 0 undef = .pointer (some ⟨g, 0, none⟩) := hf 0 (by kernel_rfl)
          refine want_free rfl ?_
          rw [Array.getD_eq_getD_getElem?] at f0
          go_simp
          exact hK _ _ (Chs.refl [(g, rdObj A c y), (h, qObj A' c' y)] _) (fun _ _ h => h) (rfl)
        · intro S W K hE hn hf hd hK
          have hn : W.heap[g]? = some (rdObj A c x) := hn (1, g, rdObj A c x) (by simp) rfl
          have d104 : S.tmps.getD 104 undef = (.pointer (some ⟨g, 0, none⟩)) := hd 0 _ rfl (by kernel_rfl)
          refine want_free rfl ?_
          rw [Array.getD_eq_getD_getElem?] at d104
          go_simp
          have hW := Ht.out.chs1 hE hn
          refine (Hp.out W hW).mono ?_
          rintro e W' ⟨v, rfl, ho2, hr2, hm2⟩
          have hgl2 := hE.size
          have hat := fun j (hj : v.ownBlock = some j) => ho2.at hj
          exact hK _ _ (Ht.out.did1 hE.size hm2 hr2) (Holds.mut hm2.block (by simp [Ht.out.ne.symm])) ⟨Sl.mono ho2.sl fun j hj => by have := hat j (hj.resolve_left id); exact ⟨this.2, by simp; omega⟩, hr2⟩
        · intro S W K hE hn hf hd hK
          obtain ⟨⟨A105, c105, d105, l105, m105, r105⟩, _⟩ := hd 1 _ rfl (by kernel_rfl)
          change S.tmps.getD 105 undef = _ at d105
          refine want_free rfl ?_
          rw [Array.getD_eq_getD_getElem?] at d105
          have hcv := conv_str (r105) 23 9 5 c105 Try.underlying23 Try.underlying5 Try.underlying9
          go_simp
          exact hK _ _ (Chs.refl _ _) (fun _ _ h => h) rfl
        · intro S W K hE hn hf hd hK
          have f1 : S.tmps.getD 1 undef = .pointer (some ⟨h, 0, none⟩) := hf 1 (by kernel_rfl)
          refine want_free rfl ?_
          rw [Array.getD_eq_getD_getElem?] at f1
          go_simp
          exact hK _ _ (Chs.refl [(g, rdObj A c y), (h, qObj A' c' y)] _) (fun _ _ h => h) (rfl)
        · intro S W K hE hn hf hd hK
          have hn : W.heap[h]? = some (qObj A' c' x) := hn (4, h, qObj A' c' x) (by simp) rfl
          have d107 : S.tmps.getD 107 undef = (.pointer (some ⟨h, 0, none⟩)) := hd 3 _ rfl (by kernel_rfl)
          refine want_free rfl ?_
          rw [Array.getD_eq_getD_getElem?] at d107
          go_simp
          have hW := Ht.out.chs2 hE hn
          refine (Hq.out W hW).mono ?_
          rintro e W' ⟨v, rfl, ho2, hr2, hm2⟩
          have hgl2 := hE.size
          have hat := fun j (hj : v.ownBlock = some j) => ho2.at hj
          exact hK _ _ (Ht.out.did2 hE.size hm2 hr2) (Holds.mut hm2.block (by simp [Ht.out.ne])) ⟨Sl.mono ho2.sl fun j hj => by have := hat j (hj.resolve_left id); exact ⟨this.2, by simp; omega⟩, hr2⟩
        · intro S W K hE hn hf hd hK
          obtain ⟨⟨A108, c108, d108, l108, m108, r108⟩, _⟩ := hd 4 _ rfl (by kernel_rfl)
          change S.tmps.getD 108 undef = _ at d108
          refine want_free rfl ?_
          rw [Array.getD_eq_getD_getElem?] at d108
          have hcv := conv_str (r108) 23 9 5 c108 Try.underlying23 Try.underlying5 Try.underlying9
          go_simp
          exact hK _ _ (Chs.refl _ _) (fun _ _ h => h) rfl
        · intro S W K hE hn hf hd hK
          have d106 : S.tmps.getD 106 undef = (.string ⟨(v).toArray⟩) := hd 2 _ rfl (by kernel_rfl)
          have d109 : S.tmps.getD 109 undef = (.string ⟨(v).toArray⟩) := hd 5 _ rfl (by kernel_rfl)
          refine want_free rfl ?_
          rw [Array.getD_eq_getD_getElem?] at d106 d109
          go_simp
          exact hK _ _ (Chs.refl _ _) (fun _ _ h => h) (by first | rfl | simp)
        · intro S W K hE hn hf hd hK
          have d110 : S.tmps.getD 110 undef = (.bool true) := hd 6 _ rfl (by kernel_rfl)
          refine want_free rfl ?_
          rw [Array.getD_eq_getD_getElem?] at d110
          go_simp
          exact hK _ _ (Chs.refl [(g, rdObj A c y), (h, qObj A' c' y)] _) (fun _ _ h => h) (rfl)
      · intro vs W hE hV
        have v0 : vs 0 = (.pointer (some ⟨g, 0, none⟩)) := hV 0 _ rfl
        have v1 := hV 1 _ rfl
        have v2 : vs 2 = (.string ⟨(v).toArray⟩) := hV 2 _ rfl
        have v3 : vs 3 = (.pointer (some ⟨h, 0, none⟩)) := hV 3 _ rfl
        have v4 := hV 4 _ rfl
        have v5 : vs 5 = (.string ⟨(v).toArray⟩) := hV 5 _ rfl
        have v6 : vs 6 = (.bool true) := hV 6 _ rfl
        have v7 : vs 7 = (.bool true) := hV 7 _ rfl
        clear hV
        set_option maxRecDepth 100000 in simp only [putAll, List.map_cons, List.map_nil, List.length_cons, List.length_nil, Nat.reduceAdd, List.range_succ, List.range_zero, List.nil_append, List.cons_append]
        set_option maxRecDepth 100000 in go_simp
        have hfin := Hfin.out W y v1.2 v4.2 hE.toMut2
        go_wp2
        go_ret
        exact ⟨rfl, hfin⟩
    · have Hp := Lib.hid (rdEnd_calls w0 B g A c x Ht.out.p)
      have Hq := Lib.hid (fun W (hW : QAt W B h A' c' x) => qEnd_calls W B h A' c' x hW)
      rw [show bothR x ⟨10, xu, xn, xm, xs, xon, xl, xi⟩ = EndR x from rfl]
      generalize EndR x = y at *
      go_enter Try.func25, Try.ntmps25
      go_wp2_with fail
      refine Hp.out.mono ?_
      rintro e w2 ⟨rfl, hr2, hm2⟩
      have Hq2 := Lib.hid (Hq.out _ (Ht.out.step1 hm2))
      go_wp2_with fail
      refine Hq2.out.mono ?_
      rintro e w3 ⟨rfl, hq3, hm3⟩
      go_wp2
      go_ret
      exact ⟨by first | rfl | simp, Hfin.out w3 _ (Ht.out.step2 hr2 hm3) hq3 (hm2.toL.trans hm3.toR)⟩
  · have hk0 : (xkind == 0) = false := by simp; omega
    have hk1 : (xkind == 1) = false := by simp; omega
    have hk2 : (xkind == 2) = false := by simp; omega
    have hk3 : (xkind == 3) = false := by simp; omega
    have hk4 : (xkind == 4) = false := by simp; omega
    have hk5 : (xkind == 5) = false := by simp; omega
    have hk6 : (xkind == 6) = false := by simp; omega
    have hk7 : (xkind == 7) = false := by simp; omega
    have hk8 : (xkind == 8) = false := by simp; omega
    have hk9 : (xkind == 9) = false := by simp; omega
    have hk10 : (xkind == 10) = false := by simp; omega
    rw [show bothR x ⟨xkind, xu, xn, xm, xs, xon, xl, xi⟩ = x from by simp [bothR]; repeat rw [if_neg (by omega)]]
    go_enter Try.func25, Try.ntmps25
    go_wp2
    go_ret
    exact ⟨rfl, Hfin.out w0 x Ht.out.p Ht.out.q (Mut2.refl _ _ _)⟩
end Go.Proofs.Ytjmeoaookpnknaa
