/- Batches merged, plain. -/
import Derived.Test.YtaomhedjamnloaaRecP1
set_option linter.unusedVariables false
set_option linter.unusedSimpArgs false
namespace Go.Proofs.Ytaomhedjamnloaa
open Go Go.RowKit

def atB (l : List BtM) (i : Nat) : BtM := l.getD i btNone
theorem atB_eq {l : List BtM} {i : Nat} (h : i < l.length) : atB l i = l[i] := by simp [atB, h]
/-- Does a batch go on where another one ends? -/
def goesB (a b : BtM) : Bool := !markB b && (decide (a.kind = b.kind ∧ a.pid = b.pid ∧ a.epoch = b.epoch ∧ a.time = b.time ∧ b.base = a.base + (a.l.length : Int)) && decide (a.pid = 0 ∨ b.seq = a.seq + (a.l.length : Int)))
def okAt (l : List BtM) (i : Nat) : Bool := !markB (atB l (i - 1)) && goesB (atB l (i - 1)) (atB l i)
def chainTo (l : List BtM) (k : Nat) : Prop := ∀ i, 0 < i → i < k → okAt l i = true
instance (l : List BtM) (k : Nat) : Decidable (chainTo l k) := decidable_of_iff (∀ i : Fin k, 0 < i.1 → okAt l i.1 = true) ⟨fun h i h0 hk => h ⟨i, hk⟩ h0, fun h i h0 => h i.1 h0 i.2⟩
def firstE : List BtM → Int
  | [] => 0
  | b :: l => if validE b = 0 then firstE l else validE b
def catL (l : List BtM) : List Rc := (l.map (·.l)).flatten
def mergeB (l : List BtM) : BtM × Int :=
  if l.length = 0 then (btNone, 3) else if firstE l ≠ 0 then (btNone, firstE l) else if l.length = 1 then (atB l 0, 0)
  else if chainTo l l.length then (if 64 < (catL l).length then (btNone, 7) else ({ atB l 0 with l := catL l }, 0)) else (btNone, 2)
theorem firstE_at : ∀ {l : List BtM} {k : Nat} (hk : k < l.length), firstE (l.take k) = 0 → validE l[k] ≠ 0 → firstE l = validE l[k]
  | [], k, hk, _, _ => by simp at hk
  | x :: l, 0, _, _, h => by simp only [List.getElem_cons_zero] at h ⊢; rw [firstE, if_neg h]
  | x :: l, k + 1, hk, h, h2 => by
    rw [List.take_succ_cons, firstE] at h
    by_cases h0 : validE x = 0
    · rw [if_pos h0] at h
      rw [firstE, if_pos h0]
      exact firstE_at (by simpa using hk) h h2
    · rw [if_neg h0] at h; exact absurd h h0
theorem firstE_snoc : ∀ {l : List BtM} {k : Nat} (hk : k < l.length), firstE (l.take k) = 0 → validE l[k] = 0 → firstE (l.take (k + 1)) = 0
  | [], k, hk, _, _ => by simp at hk
  | x :: l, 0, _, _, h => by simp only [List.getElem_cons_zero] at h; rw [List.take_succ_cons, firstE, if_pos h]; simp [firstE]
  | x :: l, k + 1, hk, h, h2 => by
    rw [List.take_succ_cons, firstE] at h
    by_cases h0 : validE x = 0
    · rw [if_pos h0] at h
      rw [List.take_succ_cons, firstE, if_pos h0]
      exact firstE_snoc (by simpa using hk) h h2
    · rw [if_neg h0] at h; exact absurd h h0
theorem firstE_all : ∀ {l : List BtM}, firstE l = 0 → ∀ b ∈ l, validE b = 0
  | [], _, b, hb => by cases hb
  | x :: l, h, b, hb => by
    rw [firstE] at h
    by_cases h0 : validE x = 0
    · rw [if_pos h0] at h
      rcases List.mem_cons.1 hb with rfl | hb
      · exact h0
      · exact firstE_all h b hb
    · rw [if_neg h0] at h; exact absurd h h0
theorem firstE_get {l : List BtM} (h : firstE l = 0) {i : Nat} (hi : i < l.length) : validE (atB l i) = 0 := by
  rw [atB_eq hi]
  exact firstE_all h _ (List.getElem_mem hi)
theorem catL_snoc {l : List BtM} {k : Nat} (hk : k < l.length) : catL (l.take (k + 1)) = catL (l.take k) ++ (atB l k).l := by
  unfold catL
  rw [atB_eq hk, List.take_succ_eq_append_getElem hk, List.map_append, List.flatten_append]
  simp
theorem catL_one {l : List BtM} (hk : 0 < l.length) : catL (l.take 1) = (atB l 0).l := by
  have := catL_snoc (l := l) (k := 0) hk
  simpa [catL] using this
theorem chain_step {l : List BtM} {k : Nat} (h : chainTo l k) (h1 : okAt l k = true) : chainTo l (k + 1) := fun i h0 hk => by
  by_cases hi : i = k
  · rw [hi]; exact h1
  · exact h i h0 (by omega)
theorem chain_bad {l : List BtM} {k : Nat} (h0 : 0 < k) (hk : k < l.length) (h : okAt l k = false) : ¬ chainTo l l.length := fun hc => by
  have := hc k h0 hk
  rw [h] at this
  cases this
theorem chain_one (l : List BtM) : chainTo l 1 := fun i h0 h1 => by omega
theorem merge_none : mergeB [] = (btNone, 3) := rfl
theorem merge_bad {l : List BtM} (h0 : 0 < l.length) (h : firstE l ≠ 0) : mergeB l = (btNone, firstE l) := by
  unfold mergeB
  rw [if_neg (by omega), if_pos h]
theorem merge_one {l : List BtM} (h0 : l.length = 1) (h : firstE l = 0) : mergeB l = (atB l 0, 0) := by
  unfold mergeB
  rw [if_neg (by omega), if_neg (fun g => g h), if_pos h0]
theorem merge_arg {l : List BtM} (h0 : 1 < l.length) (h : firstE l = 0) (hc : ¬ chainTo l l.length) : mergeB l = (btNone, 2) := by
  unfold mergeB
  rw [if_neg (by omega), if_neg (fun g => g h), if_neg (by omega), if_neg hc]
theorem merge_long {l : List BtM} (h0 : 1 < l.length) (h : firstE l = 0) (hc : chainTo l l.length) (hl : 64 < (catL l).length) : mergeB l = (btNone, 7) := by
  unfold mergeB
  rw [if_neg (by omega), if_neg (fun g => g h), if_neg (by omega), if_pos hc, if_pos hl]
theorem merge_all {l : List BtM} (h0 : 1 < l.length) (h : firstE l = 0) (hc : chainTo l l.length) (hl : ¬ 64 < (catL l).length) : mergeB l = ({ atB l 0 with l := catL l }, 0) := by
  unfold mergeB
  rw [if_neg (by omega), if_neg (fun g => g h), if_neg (by omega), if_pos hc, if_neg hl]
/-! ### As the document goes through them -/
/-- Does a batch not go on behind all ahead of it? -/
def offB (a b : BtM) (n : Nat) : Bool := decide (b.kind ≠ a.kind ∨ b.pid ≠ a.pid ∨ b.epoch ≠ a.epoch ∨ b.time ≠ a.time ∨ b.base ≠ a.base + (n : Int) ∨ (0 < b.pid ∧ b.seq ≠ a.seq + (n : Int)))
structure MInv (l : List BtM) (k : Nat) : Prop where
  ch : chainTo l k
  mks : ∀ i, i < k → markB (atB l i) = false
  same : 0 < k → (atB l (k - 1)).kind = (atB l 0).kind ∧ (atB l (k - 1)).pid = (atB l 0).pid ∧ (atB l (k - 1)).epoch = (atB l 0).epoch ∧ (atB l (k - 1)).time = (atB l 0).time
  base : 0 < k → (atB l 0).base + ((catL (l.take k)).length : Int) = (atB l (k - 1)).base + ((atB l (k - 1)).l.length : Int)
  seq : 0 < k → 0 < (atB l 0).pid → (atB l 0).seq + ((catL (l.take k)).length : Int) = (atB l (k - 1)).seq + ((atB l (k - 1)).l.length : Int)
theorem minv_zero (l : List BtM) : MInv l 0 := ⟨fun i _ h => by omega, fun i h => by omega, fun h => by omega, fun h => by omega, fun h => by omega⟩
theorem minv_first {l : List BtM} (h0 : 0 < l.length) (hm : markB (atB l 0) = false) : MInv l 1 := by
  have hc := catL_one h0
  refine ⟨fun i h1 h2 => by omega, fun i h => ?_, fun _ => ⟨rfl, rfl, rfl, rfl⟩, fun _ => ?_, fun _ _ => ?_⟩
  · obtain rfl : i = 0 := by omega
    exact hm
  · rw [hc]
  · rw [hc]
theorem okAt_iff {l : List BtM} {k : Nat} (h : MInv l k) (h0 : 0 < k) (hv : ∀ i, validE (atB l i) = 0 ∨ True) (hp : 0 ≤ (atB l k).pid) (hm : markB (atB l k) = false) : okAt l k = !offB (atB l 0) (atB l k) (catL (l.take k)).length := by
  have hmk := h.mks (k - 1) (by omega)
  obtain ⟨s1, s2, s3, s4⟩ := h.same h0
  have hb := h.base h0
  have hs := h.seq h0
  unfold okAt goesB offB
  rw [hmk, hm, s1, s2, s3, s4]
  generalize (catL (l.take k)).length = n at *
  generalize (atB l (k - 1)).l.length = m at *
  generalize (atB l (k - 1)).base = b1 at *
  generalize (atB l (k - 1)).seq = q1 at *
  generalize atB l 0 = a at *
  generalize atB l k = b at *
  rw [Bool.eq_iff_iff]
  simp only [Bool.not_false, Bool.true_and, Bool.and_eq_true, decide_eq_true_eq, Bool.not_eq_true', decide_eq_false_iff_not]
  constructor
  · rintro ⟨⟨e1, e2, e3, e4, e5⟩, e6⟩ hor
    rcases hor with h | h | h | h | h | ⟨h1, h2⟩
    · exact h e1.symm
    · exact h e2.symm
    · exact h e3.symm
    · exact h e4.symm
    · exact h (by omega)
    · rcases e6 with e6 | e6
      · omega
      · have := hs (by omega)
        exact h2 (by omega)
  · intro hn
    have e1 : b.kind = a.kind := Decidable.byContradiction fun h => hn (.inl h)
    have e2 : b.pid = a.pid := Decidable.byContradiction fun h => hn (.inr (.inl h))
    have e3 : b.epoch = a.epoch := Decidable.byContradiction fun h => hn (.inr (.inr (.inl h)))
    have e4 : b.time = a.time := Decidable.byContradiction fun h => hn (.inr (.inr (.inr (.inl h))))
    have e5 : b.base = a.base + (n : Int) := Decidable.byContradiction fun h => hn (.inr (.inr (.inr (.inr (.inl h)))))
    refine ⟨⟨e1.symm, e2.symm, e3.symm, e4.symm, by omega⟩, ?_⟩
    by_cases hp0 : a.pid = 0
    · exact .inl hp0
    · have hp1 : 0 < b.pid := by omega
      have e6 : b.seq = a.seq + (n : Int) := Decidable.byContradiction fun h => hn (.inr (.inr (.inr (.inr (.inr ⟨hp1, h⟩)))))
      have := hs (by omega)
      exact .inr (by omega)
theorem minv_step {l : List BtM} {k : Nat} (h : MInv l k) (h0 : 0 < k) (hk : k < l.length) (hp : 0 ≤ (atB l k).pid) (hm : markB (atB l k) = false) (ho : offB (atB l 0) (atB l k) (catL (l.take k)).length = false) : MInv l (k + 1) := by
  have hok : okAt l k = true := by rw [okAt_iff h h0 (fun _ => .inr trivial) hp hm, ho]; rfl
  have hc := catL_snoc hk
  have hb := h.base h0
  have hs := h.seq h0
  unfold offB at ho
  have ho := of_decide_eq_false ho
  simp only [not_or, not_and, Decidable.not_not] at ho
  obtain ⟨e1, e2, e3, e4, e5, e6⟩ := ho
  refine ⟨chain_step h.ch hok, fun i hi => ?_, fun _ => ⟨e1, e2, e3, e4⟩, fun _ => ?_, fun _ hq => ?_⟩
  · by_cases hik : i = k
    · rw [hik]; exact hm
    · exact h.mks i (by omega)
  · show _ = (atB l k).base + _
    rw [hc, List.length_append, Nat.add_sub_cancel]
    omega
  · show _ = (atB l k).seq + _
    rw [hc, List.length_append, Nat.add_sub_cancel]
    have := e6 (by omega)
    omega
theorem minv_off {l : List BtM} {k : Nat} (h : MInv l k) (h0 : 0 < k) (hk : k < l.length) (hp : 0 ≤ (atB l k).pid) (hm : markB (atB l k) = false) (ho : offB (atB l 0) (atB l k) (catL (l.take k)).length = true) : ¬ chainTo l l.length :=
  chain_bad h0 hk (by rw [okAt_iff h h0 (fun _ => .inr trivial) hp hm, ho]; rfl)
theorem chain_mark {l : List BtM} {k : Nat} (h1 : 1 < l.length) (hk : k < l.length) (hm : markB (atB l k) = true) : ¬ chainTo l l.length := by
  by_cases h0 : k = 0
  · subst h0
    refine chain_bad (k := 1) (by omega) h1 ?_
    unfold okAt
    rw [show 1 - 1 = 0 from rfl, hm]
    rfl
  · refine chain_bad (k := k) (by omega) hk ?_
    unfold okAt goesB
    rw [hm]
    simp
end Go.Proofs.Ytaomhedjamnloaa
