/- The document's reader: its state, and the first contracts. -/
import Derived.Test.YtaomhedjamnloaaRNum
import Derived.Test.YtaomhedjamnloaaRegion6
set_option linter.unusedVariables false
set_option linter.unusedSimpArgs false
namespace Go.Proofs.Ytaomhedjamnloaa
open Go Go.RowKit

/-- The document's reader in memory, at block g; its bytes. -/
structure QAt (w : World) (B g : Nat) (A : Option Addr) (c : Nat) (x : RdM) : Prop where
  base : B ≤ g
  obj : w.heap[g]? = some (.cells #[.slice A x.bs.length c, .int .i64 x.pos, .int .i64 x.err] 97 (0, 0))
  pos : x.pos ≤ x.bs.length
  cap : x.bs.length ≤ c
  max : c ≤ maxLen
  len : x.bs.length ≤ 1099511627776
  far : ∀ a, A = some a → a.block ≠ g ∧ a.block < w.heap.size
  row : Row kb w (fun k => ∃ a, A = some a ∧ k = a.block) A x.bs
section
variable {w w' : World} {B g : Nat} {A : Option Addr} {c : Nat} {x : RdM}
theorem QAt.lt (h : QAt w B g A c x) : g < w.heap.size := (Array.getElem?_eq_some_iff.1 h.obj).1
theorem QAt.move (h : QAt w B g A c x) (hs : w.heap.size ≤ w'.heap.size) (hm : ∀ k, k < w.heap.size → (k = g ∨ ∃ a, A = some a ∧ k = a.block) → w'.heap[k]? = w.heap[k]?) : QAt w' B g A c x :=
  ⟨h.base, (hm g h.lt (.inl rfl)).trans h.obj, h.pos, h.cap, h.max, h.len, fun a ha => ⟨(h.far a ha).1, Nat.lt_of_lt_of_le (h.far a ha).2 hs⟩, h.row.move fun k hk => by
    obtain ⟨a, ha, rfl⟩ := hk
    exact hm _ (h.far a ha).2 (.inr ⟨a, ha, rfl⟩)⟩
theorem QAt.ext (h : QAt w B g A c x) (hE : Below w.heap.size w w') : QAt w' B g A c x := h.move hE.size fun k hk _ => hE.block k hk
theorem QAt.drewN (h : QAt w B g A c x) (n : Nat) : QAt (w.drewN n) B g A c x := h.move (Nat.le_refl _) fun _ _ _ => rfl
/-- It stands elsewhere, or has an error. -/
theorem QAt.upd (h : QAt w B g A c x) (hm : Mut g w w') (p : Nat) (e : Int) (ho : w'.heap[g]? = some (.cells #[.slice A x.bs.length c, .int .i64 p, .int .i64 e] 97 (0, 0))) (hp : p ≤ x.bs.length) : QAt w' B g A c ⟨x.bs, p, e⟩ :=
  ⟨h.base, ho, hp, h.cap, h.max, h.len, fun a ha => ⟨(h.far a ha).1, Nat.lt_of_lt_of_le (h.far a ha).2 hm.size⟩, h.row.move fun k hk => by
    obtain ⟨a, ha, rfl⟩ := hk
    exact hm.block _ (h.far a ha).2 (h.far a ha).1⟩
theorem QAt.cells (h : QAt w B g A c x) : w.cell? ⟨g, 0, none⟩ = some (.slice A x.bs.length c) ∧ w.cell? ⟨g, 1, none⟩ = some (.int .i64 x.pos) ∧ w.cell? ⟨g, 2, none⟩ = some (.int .i64 x.err) := by
  simp [World.cell?, h.obj]
theorem QAt.frozen (h : QAt w B g A c x) : w.frozen? ⟨g, 1, none⟩ = false ∧ w.frozen? ⟨g, 2, none⟩ = false := by
  simp [World.frozen?, h.obj]
end
def QPost (w : World) (B g : Nat) (A : Option Addr) (c : Nat) (y : RdM) (v : Value) (e : Ending) (w' : World) : Prop := e = .returned v ∧ QAt w' B g A c y ∧ Mut g w w'
theorem QAt.post {w w' : World} {B g : Nat} {A : Option Addr} {c : Nat} {y : RdM} (h : QAt w' B g A c y) (hm : Mut g w w') (v : Value) : QPost w B g A c y v (.returned v) w' := ⟨rfl, h, hm⟩
theorem QAt.back {w : World} {B g : Nat} {A : Option Addr} {c : Nat} {y : RdM} (h : QAt w B g A c y) (p : Nat) (hp : p ≤ y.bs.length) : QAt (w.setCell ⟨g, 1, none⟩ (.int .i64 p)) B g A c ⟨y.bs, p, y.err⟩ ∧ Mut g w (w.setCell ⟨g, 1, none⟩ (.int .i64 p)) := by
  have hst := heap_set_eq2 w g 1 _ _ (0, 0) (.int .i64 p) h.obj
  have hm := (Mut.refl g w).set 1 (.int .i64 p)
  exact ⟨h.upd hm p y.err (by rw [hst]; simp) hp, hm⟩
set_option maxRecDepth 8000 in
set_option maxHeartbeats 2000000 in
theorem Rfail_calls (w : World) (B g : Nat) (A : Option Addr) (c : Nat) (x : RdM) (h : QAt w B g A c x) (e0 : Int) :
    Calls Try.prog 128 #[.pointer (some ⟨g, 0, none⟩), .int .i64 e0] w (QPost w B g A c (failR x e0) (.tuple #[])) := by
  obtain ⟨h0, h1, h2⟩ := h.cells
  obtain ⟨f1, f2⟩ := h.frozen
  unfold failR
  by_cases he : x.err = 0
  · rw [if_pos he]
    have hst := heap_set_eq2 w g 2 _ _ (0, 0) (.int .i64 e0) h.obj
    have hm := (Mut.refl g w).set 2 (.int .i64 e0)
    have Hfin := Lib.hid (h.upd hm x.pos e0 hst h.pos)
    have Hm := Lib.hid hm
    rw [he] at h2
    clear hst hm h
    go_enter Try.func128, Try.ntmps128
    go_wp2
    exact ⟨rfl, .tuple #[], results_none rfl _ _ _, Hfin.out.post Hm.out _⟩
  · rw [if_neg he]
    have hb : (x.err == 0) = false := by rw [beq_eq_false_iff_ne]; exact he
    go_enter Try.func128, Try.ntmps128
    go_wp2
    exact ⟨rfl, .tuple #[], results_none rfl _ _ _, h.post (Mut.refl _ _) _⟩
theorem UintR_num (x : RdM) : UintR x = if x.err = 0 then (if (numM (x.bs.drop x.pos)).2 = 0 then (0, failR x 6) else ((numM (x.bs.drop x.pos)).1, ⟨x.bs, x.pos + (numM (x.bs.drop x.pos)).2, x.err⟩)) else (0, x) := by
  unfold UintR
  split
  · unfold uintR numM
    cases h : getU 0 0 (x.bs.drop x.pos) with
    | none => rfl
    | some p =>
      have := (getU_le _ _ _ _ h).1
      simp only [Option.getD_some]
      rw [if_neg (by omega)]
  · rfl
theorem numM_le (l : List UInt8) : (numM l).2 ≤ l.length ∧ (numM l).2 ≤ 10 := by
  unfold numM
  cases h : getU 0 0 l with
  | none => exact ⟨Nat.zero_le _, Nat.zero_le _⟩
  | some p =>
    have := getU_le _ _ _ _ h
    simp only [Option.getD_some]
    omega
set_option maxRecDepth 8000 in
set_option maxHeartbeats 4000000 in
theorem qUint_calls (w : World) (B g : Nat) (A : Option Addr) (c : Nat) (x : RdM) (h : QAt w B g A c x) :
    Calls Try.prog 111 #[.pointer (some ⟨g, 0, none⟩)] w (QPost w B g A c (UintR x).2 (.int .u64 (UintR x).1)) := by
  obtain ⟨h0, h1, h2⟩ := h.cells
  obtain ⟨f1, f2⟩ := h.frozen
  have hp := h.pos
  have hl := h.len
  have hc := h.cap
  rw [UintR_num]
  by_cases he : x.err = 0
  · rw [if_pos he]
    have hnl := numM_le (x.bs.drop x.pos)
    rw [List.length_drop] at hnl
    have hsl := fun W => slice_from (P := Try.prog) 31 5 1 Try.underlying31 size_u8 A x.bs.length c (x.pos : Int) (by omega) (by omega) W .i64
    rw [Int.toNat_natCast] at hsl
    have Hnum := Lib.hid (fun n => show Calls Try.prog 129 #[.slice (cutA A c x.pos 1) (x.bs.length - x.pos) (c - x.pos)] (w.drewN n) fun e w' => e = .returned (.tuple #[.int .u64 ((numM (x.bs.drop x.pos)).1 : Nat), .int .i64 ((numM (x.bs.drop x.pos)).2 : Nat)]) ∧ w' = w.drewN n from by
      have hcut := (h.drewN n).row.cut c x.pos x.bs.length 1 rfl hp (Nat.le_refl _) h.cap
      rw [List.take_length] at hcut
      have := number_calls (cutA A c x.pos 1) (c - x.pos) (x.bs.drop x.pos) _ (w.drewN n) (by rw [List.length_drop]; omega) hcut
      rw [List.length_drop] at this
      exact this.mono fun _ _ h => ⟨h.1, h.2.symm⟩)
    have Hr := Lib.hid h
    have He := Lib.hid he
    rw [he] at h2
    have Hc := Lib.hid (And.intro hp (And.intro hl hc))
    clear h
    generalize numM (x.bs.drop x.pos) = p at *
    generalize hbl : x.bs.length = bl at *
    obtain ⟨v, n⟩ := p
    simp only at *
    by_cases hn : n = 0
    · subst hn
      rw [if_pos rfl]
      go_enter Try.func111, Try.ntmps111
      go_wp2_with fail
      go_quiet (exact Calls.quiet_of_same (Hnum.out _))
      go_simp
      have Hf := Lib.hid (Rfail_calls _ B g A c x (Hr.out.drewN nq) 6)
      go_wp2_with fail
      refine Hf.out.mono ?_
      rintro e w2 ⟨rfl, hr2, hm2⟩
      go_wp2
      go_ret
      exact hr2.post (((Mut.refl g w).drewN nq).trans hm2) _
    · rw [if_neg hn]
      have hnb : ((n : Int) == 0) = false := by simp; omega
      go_enter Try.func111, Try.ntmps111
      go_wp2_with fail
      go_quiet (exact Calls.quiet_of_same (Hnum.out _))
      go_simp
      have hst := heap_set_eq2 w g 1 _ _ (0, 0) (.int .i64 ((x.pos : Int) + (n : Int))) Hr.out.obj
      have Hm := Lib.hid ((Mut.refl g w).set 1 (.int .i64 ((x.pos : Int) + (n : Int))))
      have Hfin := Lib.hid (Hr.out.upd Hm.out (x.pos + n) x.err (by rw [hst]; simp) (by omega))
      clear hst
      go_wp2
      go_ret
      exact (Hfin.out.drewN nq).post (Hm.out.drewN nq) _
  · rw [if_neg he]
    have hb : (x.err == 0) = false := by rw [beq_eq_false_iff_ne]; exact he
    go_enter Try.func111, Try.ntmps111
    go_wp2
    go_ret
    exact h.post (Mut.refl _ _) _
set_option maxRecDepth 8000 in
set_option maxHeartbeats 2000000 in
theorem qInt_calls (w : World) (B g : Nat) (A : Option Addr) (c : Nat) (x : RdM) (h : QAt w B g A c x) :
    Calls Try.prog 112 #[.pointer (some ⟨g, 0, none⟩)] w (QPost w B g A c (IntR x).2 (.int .i64 (IntR x).1)) := by
  have Hu := Lib.hid (qUint_calls w B g A c x h)
  have hlt := UintR_lt x
  have hi : IntR x = (zag (UintR x).1, (UintR x).2) := rfl
  rw [hi]
  generalize UintR x = p at *
  obtain ⟨v, y⟩ := p
  simp only at *
  by_cases hod : v % 2 = 1
  · have hd : ((v : Int) % 2 == 1) = true := by simp; omega
    have hz : zag v = -((v / 2 : Nat) : Int) - 1 := by unfold zag; rw [if_neg (by omega)]
    rw [hz]
    have hb : (v : Int) / 2 ≤ 9223372036854775807 := by omega
    have hb0 : 0 ≤ (v : Int) / 2 := by omega
    clear hz hi
    go_enter Try.func112, Try.ntmps112
    go_wp2_with fail
    refine Hu.out.mono ?_
    rintro e w2 ⟨rfl, hr2, hm2⟩
    go_wp2
    go_ret
    exact ⟨by rfl, hr2, hm2⟩
  · have hd : ((v : Int) % 2 == 1) = false := by simp; omega
    have hz : zag v = ((v / 2 : Nat) : Int) := by unfold zag; rw [if_pos (by omega)]
    rw [hz]
    have hb : (v : Int) / 2 ≤ 9223372036854775807 := by omega
    have hb0 : 0 ≤ (v : Int) / 2 := by omega
    clear hz hi
    go_enter Try.func112, Try.ntmps112
    go_wp2_with fail
    refine Hu.out.mono ?_
    rintro e w2 ⟨rfl, hr2, hm2⟩
    go_wp2
    go_ret
    exact ⟨by rfl, hr2, hm2⟩
set_option maxRecDepth 8000 in
set_option maxHeartbeats 2000000 in
theorem qEnd_calls (w : World) (B g : Nat) (A : Option Addr) (c : Nat) (x : RdM) (h : QAt w B g A c x) :
    Calls Try.prog 119 #[.pointer (some ⟨g, 0, none⟩)] w (QPost w B g A c (EndR x) (.int .i64 (EndR x).err)) := by
  obtain ⟨h0, h1, h2⟩ := h.cells
  have hp := h.pos
  have hl := h.len
  by_cases hz : x.pos < x.bs.length
  · have hzi : (x.pos : Int) < (x.bs.length : Int) := by omega
    rw [show EndR x = failR x 6 by unfold EndR; rw [if_pos (by unfold leftR; omega)]]
    go_enter Try.func119, Try.ntmps119
    go_wp2_with fail
    go_quiet (fail)
    go_simp
    have Hf := Lib.hid (Rfail_calls _ B g A c x (h.drewN nq) 6)
    go_wp2_with fail
    refine Hf.out.mono ?_
    rintro e w2 ⟨rfl, hr2, hm2⟩
    obtain ⟨k0, k1, k2⟩ := hr2.cells
    go_wp2
    go_ret
    exact hr2.post (((Mut.refl g w).drewN nq).trans hm2) _
  · have hzi : ¬ (x.pos : Int) < (x.bs.length : Int) := by omega
    rw [show EndR x = x by unfold EndR; rw [if_neg (by unfold leftR; omega)]]
    go_enter Try.func119, Try.ntmps119
    go_wp2_with fail
    go_quiet (fail)
    go_simp
    go_wp2
    go_ret
    exact (h.drewN nq).post ((Mut.refl g w).drewN nq) _
end Go.Proofs.Ytaomhedjamnloaa
