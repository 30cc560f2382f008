/- A drawn region with calls that write: what an operation finds that no other one touches; written off Region.lean, Region3.lean. -/
import Derived.Test.YtaomhedjamnloaaRegion5
set_option linter.unusedVariables false
set_option linter.unusedSimpArgs false
namespace Go.Proofs.Ytaomhedjamnloaa
open Go Go.RowKit

section
variable {P : Program} {l : List Oper} {Q : Exit → Act → World → Prop} {a0 : Act} {w0 : World}

/-- Where the walk stands: what is listed has been written, nothing else has. -/
structure RInvN (N : Nat → World → Prop) (E : World → World → Prop) (V : Nat → SP E) (l : List Oper) (a0 : Act) (w0 : World) (vs : Nat → Value) (listed : Array Bool) (a : Act) (w : World) : Prop where
  lsz : listed.size = l.length
  defs : a.defers = a0.defers
  size : a.tmps.size = a0.tmps.size
  wrote : ∀ (i : Nat) (o : Oper) (t : Nat), listed.getD i false = true → l[i]? = some o → o.dst = some t → a.tmps[t]? = some (vs i)
  kept : ∀ t, (∀ (i : Nat) (o : Oper), listed.getD i false = true → l[i]? = some o → o.dst ≠ some t) → a.tmps[t]? = a0.tmps[t]?
  ext : E w0 w
  val : ∀ i, listed.getD i false = true → (V i).p (vs i) w
  nyd : ∀ j, listed.getD j false = false → N j w

/-- A step that leaves the others' ground. -/
def EN (N : Nat → World → Prop) (E : World → World → Prop) (i : Nat) (w w' : World) : Prop := E w w' ∧ ∀ j, j ≠ i → N j w → N j w'
/-- One operation, asked for where all that it hangs on has been written: the frame is written out, each slot of the region bearing a letter. -/
def StepOkN (N : Nat → World → Prop) (P : Program) (E : World → World → Prop) (V : Nat → SP E) (l : List Oper) (a0 : Act) (w0 : World) (i : Nat) (o : Oper) : Prop :=
  ∀ (vs : Nat → Value) (w : World), E w0 w → N i w → (∀ e ∈ o.after, Region.binds .any e = true → (V e.on).p (vs e.on) w) →
    (if Region.wanted o (yielded l.toArray (putAll l ((List.range l.length).map vs) a0).tmps) then o.wp P (putAll l ((List.range l.length).map vs) a0) w (StepK (EN N E i) (V i).p o a0.defers w) (fun _ _ _ => False)
     else EN N E i w w ∧ (V i).p undef w)

theorem region_stepN {N : Nat → World → Prop} {E : World → World → Prop} {V : Nat → SP E} (trans : ∀ a b c, E a b → E b c → E a c) (hok : regOk a0.tmps.size l = true)
    {i : Nat} {o : Oper} (ho : l[i]? = some o) (hst : StepOkN N P E V l a0 w0 i o) {vs : Nat → Value} {listed : Array Bool} {a : Act} {w : World} (hinv : RInvN N E V l a0 w0 vs listed a w)
    (hnl : listed.getD i true = false) (hdeps : ∀ e ∈ o.after, Region.binds .any e = true → listed.getD e.on false = true) {K : Act → World → Prop}
    (hK : ∀ vs' a' w', RInvN N E V l a0 w0 vs' (listed.setIfInBounds i true) a' w' → K a' w') : wpOp P l.toArray Q i K a w := by
  have hil : i < l.length := (List.getElem?_eq_some_iff.1 ho).1
  have hlt : i < listed.size := by rw [hinv.lsz]; exact hil
  -- the frame with all letters agrees with the true one where the operation looks
  have agree : ∀ t, t ∈ Oper.looksAt l.toArray o → (putAll l ((List.range l.length).map vs) a0).tmps[t]? = a.tmps[t]? := by
    intro t ht
    by_cases hex : ∃ (j : Nat) (o' : Oper), l[j]? = some o' ∧ o'.dst = some t
    · obtain ⟨j, o', hj, hd⟩ := hex
      obtain ⟨e, he, hej, hb⟩ := regOk_looks hok ho ht hj hd
      have hlj := hdeps e he hb
      rw [hej] at hlj
      rw [hinv.wrote j o' t hlj hj hd]
      obtain ⟨hdn, hu⟩ := regOk_dst hok hj hd
      exact putAll_in l _ a0 t j o' (vs j) hj hd (by have := (List.getElem?_eq_some_iff.1 hj).1; simp [this]) hdn hu
    · have hno : ∀ (j : Nat) (o' : Oper), l[j]? = some o' → o'.dst ≠ some t := fun j o' hj hd => hex ⟨j, o', hj, hd⟩
      rw [putAll_out l _ a0 t hno, hinv.kept t (fun j o' _ hj => hno j o' hj)]
  have hget : ∀ t, t ∈ Oper.looksAt l.toArray o → (putAll l ((List.range l.length).map vs) a0).tmps.getD t undef = a.tmps.getD t undef := by
    intro t ht
    have := agree t ht
    simp only [Array.getD_eq_getD_getElem?, this]
  have heval : ∀ x ∈ o.op.operands, (putAll l ((List.range l.length).map vs) a0).eval x = a.eval x := by
    intro x hx
    cases x with
    | tmp t => exact hget t (by unfold Oper.looksAt; exact List.mem_append_left _ (List.mem_filterMap.2 ⟨.tmp t, by simpa using hx, rfl⟩))
    | _ => rfl
  have hwant : Region.wanted o (yielded l.toArray (putAll l ((List.range l.length).map vs) a0).tmps) = Region.wanted o (yielded l.toArray a.tmps) := by
    unfold Region.wanted
    cases hg : o.guard with
    | none => rfl
    | some gb =>
      obtain ⟨g, b⟩ := gb
      simp only
      congr 1
      unfold yielded
      cases hq : (l.toArray[g]?).bind (·.dst) with
      | none => rfl
      | some t =>
        have ht : t ∈ Oper.looksAt l.toArray o := by
          unfold Oper.looksAt
          refine List.mem_append_right _ ?_
          rw [hg]
          simp only
          rw [hq]; simp
        simp only [Option.bind_some, agree t ht]
  have hs := hst vs w hinv.ext (hinv.nyd i (by rw [Array.getD_eq_getD_getElem?] at hnl ⊢; rw [Array.getElem?_eq_getElem hlt] at hnl ⊢; exact hnl)) fun e he hb => hinv.val _ (hdeps e he hb)
  rw [hwant] at hs
  unfold wpOp
  have ho' : l.toArray[i]? = some o := by simpa using ho
  rw [ho']
  simp only
  -- writing a value
  have write : ∀ v w', EN N E i w w' → (∀ d, o.dst = some d → (V i).p v w') → (o.dst = none → ∃ u, (V i).p u w') → K (a.put o.dst v) w' := by
    intro v w' hE hv hn
    obtain ⟨u, hu, hud⟩ : ∃ u, (V i).p u w' ∧ ∀ d, o.dst = some d → u = v := by
      cases hd : o.dst with
      | none => obtain ⟨u, hu⟩ := hn hd; exact ⟨u, hu, fun d h => by cases h⟩
      | some d => exact ⟨v, hv d hd, fun _ _ => rfl⟩
    refine hK (fun j => if j = i then u else vs j) _ w' ⟨by simp [hinv.lsz], ?_, ?_, ?_, ?_, trans _ _ _ hinv.ext hE.1, ?_, fun j hj => ?_⟩
    · rw [← hinv.defs]; cases o.dst <;> rfl
    · rw [← hinv.size]; cases o.dst <;> simp [Act.put]
    · intro j o' t hj hoj hdj
      by_cases hji : j = i
      · subst hji
        rw [ho] at hoj
        cases hoj
        obtain ⟨hdn, _⟩ := regOk_dst hok ho hdj
        simp [Act.put, hdj, hinv.size, hdn, hud t hdj]
      · have hl : listed.getD j false = true := by
          rw [Array.getD_eq_getD_getElem?] at hj ⊢
          rw [Array.getElem?_setIfInBounds_ne (Ne.symm hji)] at hj
          exact hj
        rw [if_neg hji, ← hinv.wrote j o' t hl hoj hdj]
        cases hd : o.dst with
        | none => rfl
        | some d =>
          have hne : d ≠ t := fun e => hji ((regOk_dst hok ho hd).2 j o' hoj (by rw [hdj, e]))
          simp [Act.put, Array.getElem?_setIfInBounds_ne hne]
    · intro t ht
      have hoi : o.dst ≠ some t := ht i o (by rw [Array.getD_eq_getD_getElem?]; simp [hlt]) ho
      have hk := hinv.kept t fun j o' hj hoj => by
        by_cases hji : j = i
        · subst hji
          have h0 : listed.getD j true = true := by
            rw [Array.getD_eq_getD_getElem?] at hj ⊢
            rw [Array.getElem?_eq_getElem hlt] at hj ⊢
            exact hj
          rw [h0] at hnl; cases hnl
        · refine ht j o' ?_ hoj
          rw [Array.getD_eq_getD_getElem?] at hj ⊢
          rw [Array.getElem?_setIfInBounds_ne (Ne.symm hji)]
          exact hj
      rw [← hk]
      cases hd : o.dst with
      | none => rfl
      | some d =>
        have hne : d ≠ t := fun e => hoi (by rw [hd, e])
        simp [Act.put, Array.getElem?_setIfInBounds_ne hne]
    · intro j hj
      by_cases hji : j = i
      · subst hji; rw [if_pos rfl]; exact hu
      · have hl : listed.getD j false = true := by
          rw [Array.getD_eq_getD_getElem?] at hj ⊢
          rw [Array.getElem?_setIfInBounds_ne (Ne.symm hji)] at hj
          exact hj
        rw [if_neg hji]
        exact (V j).st (hinv.val j hl) hE.1
    · have hji : j ≠ i := fun e => by
        subst e
        rw [Array.getD_eq_getD_getElem?] at hj
        simp [hlt] at hj
      refine hE.2 j hji (hinv.nyd j ?_)
      rw [Array.getD_eq_getD_getElem?] at hj ⊢
      rw [Array.getElem?_setIfInBounds_ne (Ne.symm hji)] at hj
      exact hj
  have hpd : ∀ d, o.dst = some d → d < (putAll l ((List.range l.length).map vs) a0).tmps.size := fun d hd => by rw [putAll_size]; exact (regOk_dst hok ho hd).1
  split
  · rename_i hw
    rw [if_pos hw] at hs
    refine .inl ?_
    unfold Oper.wp at hs ⊢
    rw [execOp_congr o (regOk_sel hok ho) heval] at hs
    refine upon_transfer hs ?_ ?_
    · intro v w' ⟨_, hE, hp⟩
      refine write v w' hE (fun d hd => ?_) (fun _ => ⟨_, hp⟩)
      rw [valOf_put hd (hpd d hd)] at hp
      exact hp
    · intro x w' hk
      have h1 := hk.1
      have : ({ putAll l ((List.range l.length).map vs) a0 with defers := x :: (putAll l ((List.range l.length).map vs) a0).defers }.put o.dst undef).defers = x :: a0.defers := by
        rw [← putAll_defers l ((List.range l.length).map vs) a0]
        cases o.dst <;> rfl
      rw [this] at h1
      exact absurd h1 (by intro h; have := congrArg List.length h; simp at this)
  · rename_i hw
    rw [if_neg hw] at hs
    exact write undef w hs.1 (fun _ _ => hs.2) (fun _ => ⟨_, hs.2⟩)

theorem region_allN {N : Nat → World → Prop} {E : World → World → Prop} {V : Nat → SP E} (trans : ∀ a b c, E a b → E b c → E a c) (hok : regOk a0.tmps.size l = true)
    (hst : ∀ (i : Nat) (o : Oper), l[i]? = some o → StepOkN N P E V l a0 w0 i o)
    (hfin : ∀ (vs : Nat → Value) w', E w0 w' → (∀ i, i < l.length → (V i).p (vs i) w') → Q .normal (putAll l ((List.range l.length).map vs) a0) w') :
    ∀ (fuel : Nat) (vs : Nat → Value) (listed : Array Bool) (a : Act) (w : World), RInvN N E V l a0 w0 vs listed a w → (∀ i, i < l.length → listed.getD i false = false → 0 < fuel) →
      (listed.toList.countP (fun b => !b) ≤ fuel) → wpAny P .any l.toArray Q fuel listed a w := by
  have hend : ∀ (vs : Nat → Value) (listed : Array Bool) (a : Act) (w : World), RInvN N E V l a0 w0 vs listed a w → (∀ i, i < l.length → listed.getD i false = true) → Q .normal a w := by
    intro vs listed a w hinv hall
    have : a = putAll l ((List.range l.length).map vs) a0 := by
      have h1 : a.tmps = (putAll l ((List.range l.length).map vs) a0).tmps := by
        apply Array.ext_getElem?
        intro t
        by_cases hex : ∃ (j : Nat) (o' : Oper), l[j]? = some o' ∧ o'.dst = some t
        · obtain ⟨j, o', hj, hd⟩ := hex
          have hjl : j < l.length := (List.getElem?_eq_some_iff.1 hj).1
          obtain ⟨hdn, hu⟩ := regOk_dst hok hj hd
          rw [hinv.wrote j o' t (hall j hjl) hj hd, putAll_in l _ a0 t j o' (vs j) hj hd (by simp [hjl]) hdn hu]
        · have hno : ∀ (j : Nat) (o' : Oper), l[j]? = some o' → o'.dst ≠ some t := fun j o' hj hd => hex ⟨j, o', hj, hd⟩
          rw [hinv.kept t (fun j o' _ hj => hno j o' hj), putAll_out l _ a0 t hno]
      have h2 : a.defers = (putAll l ((List.range l.length).map vs) a0).defers := by rw [hinv.defs, putAll_defers]
      cases a; cases hq : putAll l ((List.range l.length).map vs) a0
      rw [hq] at h1 h2
      simp at h1 h2
      rw [h1, h2]
    rw [this]
    exact hfin vs w hinv.ext fun i hi => hinv.val i (hall i hi)
  -- where nothing may come up, all is listed
  have hready : ∀ (vs : Nat → Value) (listed : Array Bool) (a : Act) (w : World), RInvN N E V l a0 w0 vs listed a w → Region.ready .any l.toArray listed = [] → ∀ i, i < l.length → listed.getD i false = true := by
    intro vs listed a w hinv hr
    intro i
    induction i using Nat.strongRecOn with
    | _ i ih =>
      intro hi
      cases hl : listed.getD i false with
      | true => rfl
      | false =>
        exfalso
        have hmem : i ∈ Region.ready .any l.toArray listed := by
          unfold Region.ready
          rw [List.mem_filter]
          refine ⟨by simp; exact hi, ?_⟩
          have ho : l[i]? = some l[i] := List.getElem?_eq_getElem hi
          have ho' : l.toArray[i]? = some l[i] := by simp
          rw [ho']
          simp only [Option.map_some, Option.getD_some, Bool.and_eq_true]
          refine ⟨?_, ?_⟩
          · have hlt : i < listed.size := by rw [hinv.lsz]; exact hi
            rw [Array.getD_eq_getD_getElem?, Array.getElem?_eq_getElem hlt] at hl ⊢
            simp at hl ⊢
            exact hl
          · rw [Array.all_eq_true']
            intro e he
            by_cases hb : Region.binds .any e = true
            · have hlt := regOk_edges hok ho he hb
              rw [ih e.on hlt (by omega)]
              simp
            · simp [hb]
        rw [hr] at hmem
        cases hmem
  intro fuel
  induction fuel with
  | zero =>
    intro vs listed a w hinv hf hc
    have hall : ∀ i, i < l.length → listed.getD i false = true := by
      intro i hi
      cases hl : listed.getD i false with
      | true => rfl
      | false => exact absurd (hf i hi hl) (by omega)
    refine ⟨?_, hend vs listed a w hinv hall⟩
    unfold Region.ready
    rw [List.filter_eq_nil_iff]
    intro i hi
    have hi' : i < l.length := by simpa using hi
    have hlt : i < listed.size := by rw [hinv.lsz]; exact hi'
    have h1 := hall i hi'
    rw [Array.getD_eq_getD_getElem?, Array.getElem?_eq_getElem hlt] at h1
    simp at h1
    simp [Array.getD, hlt, h1]
  | succ fuel ih =>
    intro vs listed a w hinv hf hc
    refine ⟨fun hr => hend vs listed a w hinv (hready vs listed a w hinv hr), ?_⟩
    intro i hi
    unfold Region.ready at hi
    rw [List.mem_filter] at hi
    obtain ⟨hi1, hi2⟩ := hi
    have hil : i < l.length := by simpa using hi1
    have ho : l[i]? = some l[i] := List.getElem?_eq_getElem hil
    have ho' : l.toArray[i]? = some l[i] := by simp
    rw [ho'] at hi2
    simp only [Option.map_some, Option.getD_some, Bool.and_eq_true, Bool.not_eq_true'] at hi2
    refine region_stepN trans hok ho (hst i _ ho) hinv hi2.1 ?_ ?_
    · intro e he hb
      have := (Array.all_eq_true'.1 hi2.2) e he
      simpa [hb] using this
    · intro vs' a' w' hinv'
      have hlt : i < listed.size := by rw [hinv.lsz]; exact hil
      have hfl : listed[i] = false := by
        have := hi2.1
        rw [Array.getD_eq_getD_getElem?, Array.getElem?_eq_getElem hlt] at this
        simpa using this
      have hcnt : (listed.setIfInBounds i true).toList.countP (fun b => !b) + 1 = listed.toList.countP (fun b => !b) := by
        rw [Array.toList_setIfInBounds]
        have hlt' : i < listed.toList.length := by simpa using hlt
        have := List.countP_set (p := fun b => !b) (l := listed.toList) (a := true) (h := hlt')
        rw [this]
        have hpos : 0 < listed.toList.countP (fun b => !b) := List.countP_pos_iff.2 ⟨listed[i], by simp, by simp [hfl]⟩
        have e1 : listed.toList[i] = false := by simpa using hfl
        rw [e1]
        simp only [Bool.not_false, if_true, Bool.not_true, Bool.false_eq_true, if_false]
        omega
      refine ih vs' _ a' w' hinv' ?_ (by omega)
      intro j hj hjl
      rcases Nat.eq_zero_or_pos fuel with h0 | h0
      · exfalso
        have hz : (listed.setIfInBounds i true).toList.countP (fun b => !b) = 0 := by omega
        rw [List.countP_eq_zero] at hz
        have hjlt : j < (listed.setIfInBounds i true).size := by rw [hinv'.lsz]; exact hj
        rw [Array.getD_eq_getD_getElem?, Array.getElem?_eq_getElem hjlt] at hjl
        have := hz ((listed.setIfInBounds i true)[j]) (by rw [Array.mem_toList_iff]; exact Array.getElem_mem _)
        simp at hjl
        simp [hjl] at this
      · exact h0

/-- THE REGION: whatever the order. -/
theorem wp_region_extN {N : Nat → World → Prop} {E : World → World → Prop} {id : Nat} (V : Nat → SP E) (hm : P.follows .mixedOrders = true) (refl : ∀ w, E w w) (trans : ∀ a b c, E a b → E b c → E a c) (drew : ∀ w, E w { w with drawn := w.drawn + 1 })
    (hN : ∀ j, N j { w0 with drawn := w0.drawn + 1 }) (hok : regOk a0.tmps.size l = true) (hst : ∀ (i : Nat) (o : Oper), l[i]? = some o → StepOkN N P E V l a0 w0 i o)
    (hfin : ∀ (vs : Nat → Value) w', E w0 w' → (∀ i, i < l.length → (V i).p (vs i) w') → Q .normal (putAll l ((List.range l.length).map vs) a0) w') :
    (Code.region id l.toArray true).wp P Q a0 w0 := by
  refine wp_region_any hm ?_
  refine region_allN trans hok hst hfin _ (fun _ => undef) _ a0 _ ⟨by simp, rfl, rfl, ?_, fun t _ => rfl, drew w0, ?_, fun j _ => hN j⟩ ?_ ?_
  · intro i o t h
    exfalso
    rw [Array.getD_eq_getD_getElem?] at h
    by_cases hi : i < l.length <;> simp [hi] at h
  · intro i h
    exfalso
    rw [Array.getD_eq_getD_getElem?] at h
    by_cases hi : i < l.length <;> simp [hi] at h
  · intro i hi _
    simp; omega
  · simp only [Array.toList_replicate, List.size_toArray]
    exact Nat.le_trans List.countP_le_length (by simp)
end

def StepC (N : Nat → World → Prop) (P : Program) (E : World → World → Prop) (V : Nat → SP E) (l : List Oper) (a0 : Act) (w0 : World) (i : Nat) (o : Oper) : Prop :=
  ∀ (S : Act) (W : World) (K : Act → World → Prop), E w0 W → N i W →
    (∀ t, (l.all fun o' => o'.dst != some t) = true → S.tmps.getD t undef = a0.tmps.getD t undef) →
    (∀ j o', l[j]? = some o' → (o.after.any fun e => e.on == j && Region.binds .any e) = true → (V j).p (valOf o' S) W) →
    (∀ v W', E W W' → (∀ j, j ≠ i → N j W → N j W') → (V i).p v W' → K (S.put o.dst v) W') →
    (if Region.wanted o (yielded l.toArray S.tmps) then o.wp P S W K (fun _ _ _ => False) else (V i).p undef W)
def StepsC (N : Nat → World → Prop) (P : Program) (E : World → World → Prop) (V : Nat → SP E) (l : List Oper) (a0 : Act) (w0 : World) : Nat → List Oper → Prop
  | _, [] => True
  | i, o :: os => StepC N P E V l a0 w0 i o ∧ StepsC N P E V l a0 w0 (i + 1) os
theorem StepsC.all {N : Nat → World → Prop} {P : Program} {E : World → World → Prop} {V : Nat → SP E} {l : List Oper} {a0 : Act} {w0 : World} : ∀ (os : List Oper) (k : Nat), StepsC N P E V l a0 w0 k os → ∀ (i : Nat) (o : Oper), os[i]? = some o → StepC N P E V l a0 w0 (k + i) o
  | [], _, _, i, o, h => by simp at h
  | o :: os, k, ⟨h0, h1⟩, 0, o', h => by
    simp at h
    subst h
    exact h0
  | o :: os, k, ⟨h0, h1⟩, i + 1, o', h => by
    have := StepsC.all os (k + 1) h1 i o' (by simpa using h)
    rwa [show k + 1 + i = k + (i + 1) by omega] at this
theorem stepC_ok {N : Nat → World → Prop} {P : Program} {E : World → World → Prop} (refl : ∀ w, E w w) {V : Nat → SP E} {l : List Oper} {a0 : Act} {w0 : World} {i : Nat} {o : Oper} (hok : regOk a0.tmps.size l = true) (ho : l[i]? = some o)
    (hV : ∀ j (o' : Oper), l[j]? = some o' → o'.dst = none → ∀ v v' w, (V j).p v w → (V j).p v' w) (h : StepC N P E V l a0 w0 i o) : StepOkN N P E V l a0 w0 i o := by
  intro vs W hE hn hd
  have hput : ∀ t j (o' : Oper), l[j]? = some o' → o'.dst = some t → (putAll l ((List.range l.length).map vs) a0).tmps.getD t undef = vs j := by
    intro t j o' hj hdj
    obtain ⟨hdn, hu⟩ := regOk_dst hok hj hdj
    rw [Array.getD_eq_getD_getElem?, putAll_in l _ a0 t j o' (vs j) hj hdj (by have := (List.getElem?_eq_some_iff.1 hj).1; simp [this]) hdn hu]
    rfl
  have hs := h (putAll l ((List.range l.length).map vs) a0) W (StepK (EN N E i) ((V i).p) o a0.defers W) hE hn ?_ ?_ ?_
  · split
    · rename_i hw; simpa only [hw, if_true] using hs
    · rename_i hw
      have hs' : (V i).p undef W := by simpa only [hw, if_false, Bool.false_eq_true] using hs
      exact ⟨⟨refl _, fun _ _ h => h⟩, hs'⟩
  · intro t ht
    rw [Array.getD_eq_getD_getElem?, Array.getD_eq_getD_getElem?, putAll_out]
    intro j o' hj
    have := List.all_eq_true.1 ht o' (List.mem_of_getElem? hj)
    simpa using this
  · intro j o' hj hb
    rw [Array.any_eq_true'] at hb
    obtain ⟨e, he, hb⟩ := hb
    simp only [Bool.and_eq_true, beq_iff_eq] at hb
    obtain ⟨rfl, hb⟩ := hb
    have := hd e he hb
    cases hq : o'.dst with
    | none => exact hV _ o' hj hq _ _ _ this
    | some t =>
      unfold valOf
      rw [hq]
      simp only
      rw [hput t _ o' hj hq]
      exact this
  · intro v W' hE' hn' hp
    refine ⟨?_, ⟨hE', hn'⟩, ?_⟩
    · have : (putAll l ((List.range l.length).map vs) a0).defers = a0.defers := putAll_defers _ _ _
      rw [← this]
      cases o.dst <;> rfl
    · cases hq : o.dst with
      | none => exact hV i o ho hq _ _ _ hp
      | some d =>
        rw [← hq, valOf_put hq (by rw [putAll_size]; exact (regOk_dst hok ho hq).1)]
        exact hp
theorem wp_region_stepsC (N : Nat → World → Prop) {P : Program} {l : List Oper} {Q : Exit → Act → World → Prop} {a0 : Act} {w0 : World} {id : Nat} (E : World → World → Prop) (refl : ∀ w, E w w) (trans : ∀ a b c, E a b → E b c → E a c) (drew : ∀ w, E w { w with drawn := w.drawn + 1 }) (V : List (SP E)) (hm : P.follows .mixedOrders = true) (hN : ∀ j, N j { w0 with drawn := w0.drawn + 1 }) (hok : regOk a0.tmps.size l = true)
    (hV : ∀ j (o' : Oper), l[j]? = some o' → o'.dst = none → ∀ v v' w, (V.getD j SP.any).p v w → (V.getD j SP.any).p v' w)
    (hst : StepsC N P E (fun i => V.getD i SP.any) l a0 w0 0 l)
    (hfin : ∀ (vs : Nat → Value) w', E w0 w' → (∀ i o, l[i]? = some o → (V.getD i SP.any).p (vs i) w') → Q .normal (putAll l ((List.range l.length).map vs) a0) w') :
    (Code.region id l.toArray true).wp P Q a0 w0 :=
  wp_region_extN (N := N) (fun i => V.getD i SP.any) hm refl trans drew hN hok (fun i o ho => stepC_ok refl hok ho hV (by have := StepsC.all l 0 hst i o ho; rwa [Nat.zero_add] at this))
    (fun vs w' hE h => hfin vs w' hE fun i o ho => h i (List.getElem?_eq_some_iff.1 ho).1)

/-- Blocks that may change, each to just one thing; the call's own blocks come. -/
structure Chs (cs : List (Nat × Obj)) (w w' : World) : Prop where
  os : w'.os = w.os
  tape : w'.tape = w.tape
  output : w'.output = w.output
  size : w.heap.size ≤ w'.heap.size
  block : ∀ k, k < w.heap.size → (∀ c ∈ cs, c.1 ≠ k) → w'.heap[k]? = w.heap[k]?
  one : ∀ c ∈ cs, w'.heap[c.1]? = w.heap[c.1]? ∨ w'.heap[c.1]? = some c.2
theorem Chs.refl (cs : List (Nat × Obj)) (w : World) : Chs cs w w := ⟨rfl, rfl, rfl, Nat.le_refl _, fun _ _ _ => rfl, fun _ _ => .inl rfl⟩
theorem Chs.trans (cs : List (Nat × Obj)) (a b c : World) (h : Chs cs a b) (k : Chs cs b c) : Chs cs a c :=
  ⟨k.os.trans h.os, k.tape.trans h.tape, k.output.trans h.output, Nat.le_trans h.size k.size, fun i hi hr => (k.block i (Nat.lt_of_lt_of_le hi h.size) hr).trans (h.block i hi hr), fun x hx => by
    rcases k.one x hx with e | e
    · rw [e]; exact h.one x hx
    · exact .inr e⟩
theorem Chs.drew (cs : List (Nat × Obj)) (w : World) : Chs cs w { w with drawn := w.drawn + 1 } := ⟨rfl, rfl, rfl, Nat.le_refl _, fun _ _ _ => rfl, fun _ _ => .inl rfl⟩
theorem Chs.of {cs : List (Nat × Obj)} {w w' : World} (hr : ∀ c ∈ cs, c.1 < w.heap.size) (h : Ext w w') : Chs cs w w' := ⟨h.os, h.tape, h.output, h.size, fun k hk _ => h.block k hk, fun c hc => .inl (h.block _ (hr c hc))⟩
/-- A value that is read in memory that does not change. -/
def SP.slc {cs : List (Nat × Obj)} {α : Type} (d : Kd α) (l : List α) : SP (Chs cs) := ⟨fun v w => Sl d w (fun k => k < w.heap.size ∧ ∀ c ∈ cs, c.1 ≠ k) v l, fun {v w w'} ⟨A, c, e, h1, h2, hr⟩ h => ⟨A, c, e, h1, h2, (hr.move fun k hk => h.block k hk.1 hk.2).mono fun k hk => ⟨Nat.lt_of_lt_of_le hk.1 h.size, hk.2⟩⟩⟩
/-- What operations find that no other one touches: (the operation, the block, what it holds). -/
def Holds (ls : List (Nat × Nat × Obj)) (i : Nat) (W : World) : Prop := ∀ x ∈ ls, x.1 = i → W.heap[x.2.1]? = some x.2.2
/-- All of it, at the region's start. -/
def HoldsAll (ls : List (Nat × Nat × Obj)) (W : World) : Prop := ∀ x ∈ ls, W.heap[x.2.1]? = some x.2.2
theorem holds_nil (W : World) : HoldsAll [] W := fun x hx => by cases hx
theorem holds_cons {ls : List (Nat × Nat × Obj)} {W : World} {i g : Nat} {C : Obj} (h : W.heap[g]? = some C) (hl : HoldsAll ls W) : HoldsAll ((i, g, C) :: ls) W := fun x hx => by
  rcases List.mem_cons.1 hx with rfl | hx
  · exact h
  · exact hl x hx
theorem holds_start {ls : List (Nat × Nat × Obj)} {w0 : World} (h : HoldsAll ls w0) : ∀ j, Holds ls j { w0 with drawn := w0.drawn + 1 } := fun j x hx _ => h x hx
theorem Holds.ext {ls : List (Nat × Nat × Obj)} {W W' : World} (hE : Ext W W') (i : Nat) : ∀ j, j ≠ i → Holds ls j W → Holds ls j W' := fun j _ h x hx e => by
  have h1 := h x hx e
  exact (hE.block _ (Array.getElem?_eq_some_iff.1 h1).1).trans h1
theorem Holds.mut {ls : List (Nat × Nat × Obj)} {W W' : World} {g i : Nat} (hm : ∀ k, k < W.heap.size → k ≠ g → W'.heap[k]? = W.heap[k]?) (hl : ∀ x ∈ ls, x.1 ≠ i → x.2.1 ≠ g) : ∀ j, j ≠ i → Holds ls j W → Holds ls j W' := fun j hj h x hx e => by
  have h1 := h x hx e
  exact (hm _ (Array.getElem?_eq_some_iff.1 h1).1 (hl x hx (by omega))).trans h1
/-- A call that has changed one block. -/
theorem Chs.mut {cs : List (Nat × Obj)} {W W' : World} {g : Nat} {C : Obj} (h1 : W'.os = W.os) (h2 : W'.tape = W.tape) (h3 : W'.output = W.output) (h4 : W.heap.size ≤ W'.heap.size) (hm : ∀ k, k < W.heap.size → k ≠ g → W'.heap[k]? = W.heap[k]?) (ho : W'.heap[g]? = some C)
    (hc : (g, C) ∈ cs) (hcs : ∀ c ∈ cs, (c.1 ≠ g ∧ c.1 < W.heap.size) ∨ c = (g, C)) : Chs cs W W' :=
  ⟨h1, h2, h3, h4, fun k hk hn => hm k hk (fun e => hn _ hc e.symm), fun c hx => by
    rcases hcs c hx with h | rfl
    · exact .inl (hm _ h.2 h.1)
    · exact .inr ho⟩
theorem Chs.stay {cs : List (Nat × Obj)} {w w' : World} {b : Nat × Obj} (hb : b ∈ cs) (hq : w.heap[b.1]? = some b.2) (h : Chs cs w w') : w'.heap[b.1]? = some b.2 := by
  rcases h.one b hb with e | e
  · rw [e]; exact hq
  · exact e
/-- This value, and the block holds just this now. -/
def SP.eqd {cs : List (Nat × Obj)} (v : Value) (b : Nat × Obj) (hb : b ∈ cs) : SP (Chs cs) := ⟨fun u w => u = v ∧ w.heap[b.1]? = some b.2, fun hq h => ⟨hq.1, Chs.stay hb hq.2 h⟩⟩
def SP.slcd {cs : List (Nat × Obj)} {α : Type} (d : Kd α) (l : List α) (b : Nat × Obj) (hb : b ∈ cs) : SP (Chs cs) := ⟨fun u w => (SP.slc (cs := cs) d l).p u w ∧ w.heap[b.1]? = some b.2, fun hq h => ⟨(SP.slc (cs := cs) d l).st hq.1 h, Chs.stay hb hq.2 h⟩⟩
end Go.Proofs.Ytaomhedjamnloaa
