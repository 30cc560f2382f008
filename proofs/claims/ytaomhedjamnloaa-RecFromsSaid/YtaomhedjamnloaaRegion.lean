/- A region that draws its order, walked once whatever the order: what each operation yields is told by a predicate that lasts. -/
import Derived.Orders
import Derived.Tactics
import Derived.Below
import Derived.KernelRfl
set_option linter.unusedVariables false
set_option linter.unusedSimpArgs false
namespace Go.Proofs.Ytaomhedjamnloaa
open Go

/-- A predicate on what an operation yielded that lasts as the world goes on. -/
structure SP (E : World → World → Prop) where
  p : Value → World → Prop
  st : ∀ {v w w'}, p v w → E w w' → p v w'

/-- What an operation wrote. -/
def valOf (o : Oper) (a : Act) : Value := match o.dst with
  | some d => a.tmps.getD d undef
  | none => undef

/-- All operations' values written, in line. -/
def putAll : List Oper → List Value → Act → Act
  | o :: os, v :: vs, a => putAll os vs (a.put o.dst v)
  | _, _, a => a

/-- What must be so of a region's text: edges lead back; no slot is written twice, all lie in the frame; what an operation reads is written by none of the region's or by one that it has an edge to. -/
def regOk (n : Nat) (l : List Oper) : Bool :=
  (l.zipIdx.all fun (o, i) => o.after.all fun e => !Region.binds .any e || decide (e.on < i)) &&
  (l.zipIdx.all fun (o, i) => match o.dst with | some d => decide (d < n) && l.zipIdx.all (fun (o', j) => i == j || o'.dst != some d) | none => true) &&
  (l.zipIdx.all fun (o, i) => (Oper.looksAt l.toArray o).all fun t => l.zipIdx.all fun (o', j) => o'.dst != some t || o.after.any fun e => e.on == j && Region.binds .any e)
  && (l.all fun o => match o.op with | .select .. => false | _ => true)

def StepK (E : World → World → Prop) (p : Value → World → Prop) (o : Oper) (ds : List Deferred) (w : World) : Act → World → Prop :=
  fun a' w' => a'.defers = ds ∧ E w w' ∧ p (valOf o a') w'

theorem valOf_put {o : Oper} {a : Act} {v : Value} {d : Nat} (h : o.dst = some d) (hd : d < a.tmps.size) : valOf o (a.put o.dst v) = v := by
  unfold valOf
  rw [h]
  simp [Act.put, Array.getD, hd]

theorem upon_transfer {P : Program} {o : Oper} {aS a : Act} {K' K : Act → World → Prop} {Q : Exit → Act → World → Prop} {r : Result Next}
    (h : o.upon P aS K' (fun _ _ _ => False) r) (hK : ∀ v w, K' (aS.put o.dst v) w → K (a.put o.dst v) w) (hdef : ∀ x w, ¬ K' ({ aS with defers := x :: aS.defers }.put o.dst undef) w) :
    o.upon P a K Q r := by
  cases r with
  | ok n w' =>
    cases n with
    | value v => exact hK _ _ h
    | skip => exact hK _ _ h
    | defer d => exact absurd h (hdef _ _)
    | enter f args =>
      refine Calls.mono h ?_
      intro e w'' he
      cases e with
      | returned v => exact hK _ _ he
      | panicked c => exact he.elim
      | outgrown => obtain ⟨_, _, hf⟩ := he; exact hf.elim
    | row row args => exact Rows.mono h fun v w'' hh => hK _ _ hh
    | _ => simp [Oper.upon] at h
  | halt x w' =>
    cases x with
    | panic v => exact False.elim h
    | _ => simp [Oper.upon] at h

section
variable {P : Program} {l : List Oper} {Q : Exit → Act → World → Prop} {a0 : Act} {w0 : World}

/-- Where the walk stands: what is listed has been written, nothing else has. -/
structure RInv (E : World → World → Prop) (V : Nat → SP E) (l : List Oper) (a0 : Act) (w0 : World) (vs : Nat → Value) (listed : Array Bool) (a : Act) (w : World) : Prop where
  lsz : listed.size = l.length
  defs : a.defers = a0.defers
  size : a.tmps.size = a0.tmps.size
  wrote : ∀ (i : Nat) (o : Oper) (t : Nat), listed.getD i false = true → l[i]? = some o → o.dst = some t → a.tmps[t]? = some (vs i)
  kept : ∀ t, (∀ (i : Nat) (o : Oper), listed.getD i false = true → l[i]? = some o → o.dst ≠ some t) → a.tmps[t]? = a0.tmps[t]?
  ext : E w0 w
  val : ∀ i, listed.getD i false = true → (V i).p (vs i) w

theorem putAll_size : ∀ (l : List Oper) (vs : List Value) (a : Act), (putAll l vs a).tmps.size = a.tmps.size
  | [], _, _ => rfl
  | o :: os, [], _ => rfl
  | o :: os, v :: vs, a => by
    rw [putAll, putAll_size os vs]
    cases h : o.dst <;> simp [Act.put]
theorem putAll_defers : ∀ (l : List Oper) (vs : List Value) (a : Act), (putAll l vs a).defers = a.defers
  | [], _, _ => rfl
  | o :: os, [], _ => rfl
  | o :: os, v :: vs, a => by
    rw [putAll, putAll_defers os vs]
    cases h : o.dst <;> simp [Act.put]
theorem putAll_out : ∀ (l : List Oper) (vs : List Value) (a : Act) (t : Nat), (∀ (i : Nat) (o : Oper), l[i]? = some o → o.dst ≠ some t) → (putAll l vs a).tmps[t]? = a.tmps[t]?
  | [], _, _, _, _ => rfl
  | o :: os, [], _, _, _ => rfl
  | o :: os, v :: vs, a, t, h => by
    rw [putAll, putAll_out os vs _ t (fun i o' hi => h (i + 1) o' (by simpa using hi))]
    have h0 := h 0 o rfl
    cases hd : o.dst with
    | none => rfl
    | some d =>
      have : d ≠ t := fun e => h0 (by rw [hd, e])
      simp [Act.put, Array.getElem?_setIfInBounds_ne this]
theorem putAll_in : ∀ (l : List Oper) (vs : List Value) (a : Act) (t i : Nat) (o : Oper) (v : Value), l[i]? = some o → o.dst = some t → vs[i]? = some v → t < a.tmps.size →
    (∀ (j : Nat) (o' : Oper), l[j]? = some o' → o'.dst = some t → j = i) → (putAll l vs a).tmps[t]? = some v
  | [], _, _, _, i, _, _, h, _, _, _, _ => by simp at h
  | o :: os, [], _, _, i, _, _, _, _, h, _, _ => by simp at h
  | o :: os, u :: vs, a, t, 0, o1, v, h, hd, hv, ht, hu => by
    simp at h hv
    subst h; subst hv
    rw [putAll, putAll_out os vs _ t (fun i o' hi he => by have := hu (i + 1) o' (by simpa using hi) he; omega)]
    simp [Act.put, hd, ht]
  | o :: os, u :: vs, a, t, i + 1, o1, v, h, hd, hv, ht, hu => by
    rw [putAll]
    refine putAll_in os vs _ t i o1 v (by simpa using h) hd (by simpa using hv) ?_ (fun j o' hj he => by have := hu (j + 1) o' (by simpa using hj) he; omega)
    cases hq : o.dst <;> simp [Act.put, ht]

theorem regOk_edges {n : Nat} (h : regOk n l = true) {i : Nat} {o : Oper} (ho : l[i]? = some o) {e : Edge} (he : e ∈ o.after) (hb : Region.binds .any e = true) : e.on < i := by
  unfold regOk at h
  simp only [Bool.and_eq_true] at h
  have := List.all_eq_true.1 h.1.1.1 (o, i) (by rw [List.mk_mem_zipIdx_iff_getElem?]; exact ho)
  simp only at this
  rw [Array.all_eq_true'] at this
  have := this e he
  rw [hb] at this
  simpa using this
theorem regOk_dst {n : Nat} (h : regOk n l = true) {i : Nat} {o : Oper} (ho : l[i]? = some o) {d : Nat} (hd : o.dst = some d) : d < n ∧ ∀ (j : Nat) (o' : Oper), l[j]? = some o' → o'.dst = some d → j = i := by
  unfold regOk at h
  simp only [Bool.and_eq_true] at h
  have := List.all_eq_true.1 h.1.1.2 (o, i) (by rw [List.mk_mem_zipIdx_iff_getElem?]; exact ho)
  simp only [hd, Bool.and_eq_true] at this
  refine ⟨of_decide_eq_true this.1, fun j o' hj he => ?_⟩
  have h2 := List.all_eq_true.1 this.2 (o', j) (by rw [List.mk_mem_zipIdx_iff_getElem?]; exact hj)
  simp [he] at h2
  exact h2.symm
theorem regOk_looks {n : Nat} (h : regOk n l = true) {i : Nat} {o : Oper} (ho : l[i]? = some o) {t : Nat} (ht : t ∈ Oper.looksAt l.toArray o) {j : Nat} {o' : Oper} (hj : l[j]? = some o') (hd : o'.dst = some t) :
    ∃ e ∈ o.after, e.on = j ∧ Region.binds .any e = true := by
  unfold regOk at h
  simp only [Bool.and_eq_true] at h
  have h1 := List.all_eq_true.1 h.1.2 (o, i) (by rw [List.mk_mem_zipIdx_iff_getElem?]; exact ho)
  have h2 := List.all_eq_true.1 h1 t ht
  have h3 := List.all_eq_true.1 h2 (o', j) (by rw [List.mk_mem_zipIdx_iff_getElem?]; exact hj)
  simp [hd] at h3
  obtain ⟨k, hk, he, hb⟩ := h3
  exact ⟨o.after[k], Array.getElem_mem _, he, hb⟩
theorem regOk_sel {n : Nat} (h : regOk n l = true) {i : Nat} {o : Oper} (ho : l[i]? = some o) : ∀ cs b, o.op ≠ .select cs b := by
  unfold regOk at h
  simp only [Bool.and_eq_true] at h
  have := List.all_eq_true.1 h.2 o (List.mem_of_getElem? ho)
  intro cs b he
  rw [he] at this
  cases this

/-- One operation, asked for where all that it hangs on has been written: the frame is written out, each slot of the region bearing a letter. -/
def StepOk (P : Program) (E : World → World → Prop) (V : Nat → SP E) (l : List Oper) (a0 : Act) (w0 : World) (i : Nat) (o : Oper) : Prop :=
  ∀ (vs : Nat → Value) (w : World), E w0 w → (∀ e ∈ o.after, Region.binds .any e = true → (V e.on).p (vs e.on) w) →
    (if Region.wanted o (yielded l.toArray (putAll l ((List.range l.length).map vs) a0).tmps) then o.wp P (putAll l ((List.range l.length).map vs) a0) w (StepK E (V i).p o a0.defers w) (fun _ _ _ => False)
     else E w w ∧ (V i).p undef w)

theorem region_step {E : World → World → Prop} {V : Nat → SP E} (trans : ∀ a b c, E a b → E b c → E a c) (hok : regOk a0.tmps.size l = true)
    {i : Nat} {o : Oper} (ho : l[i]? = some o) (hst : StepOk P E V l a0 w0 i o) {vs : Nat → Value} {listed : Array Bool} {a : Act} {w : World} (hinv : RInv E V l a0 w0 vs listed a w)
    (hnl : listed.getD i true = false) (hdeps : ∀ e ∈ o.after, Region.binds .any e = true → listed.getD e.on false = true) {K : Act → World → Prop}
    (hK : ∀ vs' a' w', RInv E V l a0 w0 vs' (listed.setIfInBounds i true) a' w' → K a' w') : wpOp P l.toArray Q i K a w := by
  have hil : i < l.length := (List.getElem?_eq_some_iff.1 ho).1
  have hlt : i < listed.size := by rw [hinv.lsz]; exact hil
  -- the frame with all letters agrees with the true one where the operation looks
  have agree : ∀ t, t ∈ Oper.looksAt l.toArray o → (putAll l ((List.range l.length).map vs) a0).tmps[t]? = a.tmps[t]? := by
    intro t ht
    by_cases hex : ∃ (j : Nat) (o' : Oper), l[j]? = some o' ∧ o'.dst = some t
    · obtain ⟨j, o', hj, hd⟩ := hex
      obtain ⟨e, he, hej, hb⟩ := regOk_looks hok ho ht hj hd
      have hlj := hdeps e he hb
      rw [hej] at hlj
      rw [hinv.wrote j o' t hlj hj hd]
      obtain ⟨hdn, hu⟩ := regOk_dst hok hj hd
      exact putAll_in l _ a0 t j o' (vs j) hj hd (by have := (List.getElem?_eq_some_iff.1 hj).1; simp [this]) hdn hu
    · have hno : ∀ (j : Nat) (o' : Oper), l[j]? = some o' → o'.dst ≠ some t := fun j o' hj hd => hex ⟨j, o', hj, hd⟩
      rw [putAll_out l _ a0 t hno, hinv.kept t (fun j o' _ hj => hno j o' hj)]
  have hget : ∀ t, t ∈ Oper.looksAt l.toArray o → (putAll l ((List.range l.length).map vs) a0).tmps.getD t undef = a.tmps.getD t undef := by
    intro t ht
    have := agree t ht
    simp only [Array.getD_eq_getD_getElem?, this]
  have heval : ∀ x ∈ o.op.operands, (putAll l ((List.range l.length).map vs) a0).eval x = a.eval x := by
    intro x hx
    cases x with
    | tmp t => exact hget t (by unfold Oper.looksAt; exact List.mem_append_left _ (List.mem_filterMap.2 ⟨.tmp t, by simpa using hx, rfl⟩))
    | _ => rfl
  have hwant : Region.wanted o (yielded l.toArray (putAll l ((List.range l.length).map vs) a0).tmps) = Region.wanted o (yielded l.toArray a.tmps) := by
    unfold Region.wanted
    cases hg : o.guard with
    | none => rfl
    | some gb =>
      obtain ⟨g, b⟩ := gb
      simp only
      congr 1
      unfold yielded
      cases hq : (l.toArray[g]?).bind (·.dst) with
      | none => rfl
      | some t =>
        have ht : t ∈ Oper.looksAt l.toArray o := by
          unfold Oper.looksAt
          refine List.mem_append_right _ ?_
          rw [hg]
          simp only
          rw [hq]; simp
        simp only [Option.bind_some, agree t ht]
  have hs := hst vs w hinv.ext fun e he hb => hinv.val _ (hdeps e he hb)
  rw [hwant] at hs
  unfold wpOp
  have ho' : l.toArray[i]? = some o := by simpa using ho
  rw [ho']
  simp only
  -- writing a value
  have write : ∀ v w', E w w' → (∀ d, o.dst = some d → (V i).p v w') → (o.dst = none → ∃ u, (V i).p u w') → K (a.put o.dst v) w' := by
    intro v w' hE hv hn
    obtain ⟨u, hu, hud⟩ : ∃ u, (V i).p u w' ∧ ∀ d, o.dst = some d → u = v := by
      cases hd : o.dst with
      | none => obtain ⟨u, hu⟩ := hn hd; exact ⟨u, hu, fun d h => by cases h⟩
      | some d => exact ⟨v, hv d hd, fun _ _ => rfl⟩
    refine hK (fun j => if j = i then u else vs j) _ w' ⟨by simp [hinv.lsz], ?_, ?_, ?_, ?_, trans _ _ _ hinv.ext hE, ?_⟩
    · rw [← hinv.defs]; cases o.dst <;> rfl
    · rw [← hinv.size]; cases o.dst <;> simp [Act.put]
    · intro j o' t hj hoj hdj
      by_cases hji : j = i
      · subst hji
        rw [ho] at hoj
        cases hoj
        obtain ⟨hdn, _⟩ := regOk_dst hok ho hdj
        simp [Act.put, hdj, hinv.size, hdn, hud t hdj]
      · have hl : listed.getD j false = true := by
          rw [Array.getD_eq_getD_getElem?] at hj ⊢
          rw [Array.getElem?_setIfInBounds_ne (Ne.symm hji)] at hj
          exact hj
        rw [if_neg hji, ← hinv.wrote j o' t hl hoj hdj]
        cases hd : o.dst with
        | none => rfl
        | some d =>
          have hne : d ≠ t := fun e => hji ((regOk_dst hok ho hd).2 j o' hoj (by rw [hdj, e]))
          simp [Act.put, Array.getElem?_setIfInBounds_ne hne]
    · intro t ht
      have hoi : o.dst ≠ some t := ht i o (by rw [Array.getD_eq_getD_getElem?]; simp [hlt]) ho
      have hk := hinv.kept t fun j o' hj hoj => by
        by_cases hji : j = i
        · subst hji
          have h0 : listed.getD j true = true := by
            rw [Array.getD_eq_getD_getElem?] at hj ⊢
            rw [Array.getElem?_eq_getElem hlt] at hj ⊢
            exact hj
          rw [h0] at hnl; cases hnl
        · refine ht j o' ?_ hoj
          rw [Array.getD_eq_getD_getElem?] at hj ⊢
          rw [Array.getElem?_setIfInBounds_ne (Ne.symm hji)]
          exact hj
      rw [← hk]
      cases hd : o.dst with
      | none => rfl
      | some d =>
        have hne : d ≠ t := fun e => hoi (by rw [hd, e])
        simp [Act.put, Array.getElem?_setIfInBounds_ne hne]
    · intro j hj
      by_cases hji : j = i
      · subst hji; rw [if_pos rfl]; exact hu
      · have hl : listed.getD j false = true := by
          rw [Array.getD_eq_getD_getElem?] at hj ⊢
          rw [Array.getElem?_setIfInBounds_ne (Ne.symm hji)] at hj
          exact hj
        rw [if_neg hji]
        exact (V j).st (hinv.val j hl) hE
  have hpd : ∀ d, o.dst = some d → d < (putAll l ((List.range l.length).map vs) a0).tmps.size := fun d hd => by rw [putAll_size]; exact (regOk_dst hok ho hd).1
  split
  · rename_i hw
    rw [if_pos hw] at hs
    refine .inl ?_
    unfold Oper.wp at hs ⊢
    rw [execOp_congr o (regOk_sel hok ho) heval] at hs
    refine upon_transfer hs ?_ ?_
    · intro v w' ⟨_, hE, hp⟩
      refine write v w' hE (fun d hd => ?_) (fun _ => ⟨_, hp⟩)
      rw [valOf_put hd (hpd d hd)] at hp
      exact hp
    · intro x w' hk
      have h1 := hk.1
      have : ({ putAll l ((List.range l.length).map vs) a0 with defers := x :: (putAll l ((List.range l.length).map vs) a0).defers }.put o.dst undef).defers = x :: a0.defers := by
        rw [← putAll_defers l ((List.range l.length).map vs) a0]
        cases o.dst <;> rfl
      rw [this] at h1
      exact absurd h1 (by intro h; have := congrArg List.length h; simp at this)
  · rename_i hw
    rw [if_neg hw] at hs
    exact write undef w hs.1 (fun _ _ => hs.2) (fun _ => ⟨_, hs.2⟩)

theorem region_all {E : World → World → Prop} {V : Nat → SP E} (trans : ∀ a b c, E a b → E b c → E a c) (hok : regOk a0.tmps.size l = true)
    (hst : ∀ (i : Nat) (o : Oper), l[i]? = some o → StepOk P E V l a0 w0 i o)
    (hfin : ∀ (vs : Nat → Value) w', E w0 w' → (∀ i, i < l.length → (V i).p (vs i) w') → Q .normal (putAll l ((List.range l.length).map vs) a0) w') :
    ∀ (fuel : Nat) (vs : Nat → Value) (listed : Array Bool) (a : Act) (w : World), RInv E V l a0 w0 vs listed a w → (∀ i, i < l.length → listed.getD i false = false → 0 < fuel) →
      (listed.toList.countP (fun b => !b) ≤ fuel) → wpAny P .any l.toArray Q fuel listed a w := by
  have hend : ∀ (vs : Nat → Value) (listed : Array Bool) (a : Act) (w : World), RInv E V l a0 w0 vs listed a w → (∀ i, i < l.length → listed.getD i false = true) → Q .normal a w := by
    intro vs listed a w hinv hall
    have : a = putAll l ((List.range l.length).map vs) a0 := by
      have h1 : a.tmps = (putAll l ((List.range l.length).map vs) a0).tmps := by
        apply Array.ext_getElem?
        intro t
        by_cases hex : ∃ (j : Nat) (o' : Oper), l[j]? = some o' ∧ o'.dst = some t
        · obtain ⟨j, o', hj, hd⟩ := hex
          have hjl : j < l.length := (List.getElem?_eq_some_iff.1 hj).1
          obtain ⟨hdn, hu⟩ := regOk_dst hok hj hd
          rw [hinv.wrote j o' t (hall j hjl) hj hd, putAll_in l _ a0 t j o' (vs j) hj hd (by simp [hjl]) hdn hu]
        · have hno : ∀ (j : Nat) (o' : Oper), l[j]? = some o' → o'.dst ≠ some t := fun j o' hj hd => hex ⟨j, o', hj, hd⟩
          rw [hinv.kept t (fun j o' _ hj => hno j o' hj), putAll_out l _ a0 t hno]
      have h2 : a.defers = (putAll l ((List.range l.length).map vs) a0).defers := by rw [hinv.defs, putAll_defers]
      cases a; cases hq : putAll l ((List.range l.length).map vs) a0
      rw [hq] at h1 h2
      simp at h1 h2
      rw [h1, h2]
    rw [this]
    exact hfin vs w hinv.ext fun i hi => hinv.val i (hall i hi)
  -- where nothing may come up, all is listed
  have hready : ∀ (vs : Nat → Value) (listed : Array Bool) (a : Act) (w : World), RInv E V l a0 w0 vs listed a w → Region.ready .any l.toArray listed = [] → ∀ i, i < l.length → listed.getD i false = true := by
    intro vs listed a w hinv hr
    intro i
    induction i using Nat.strongRecOn with
    | _ i ih =>
      intro hi
      cases hl : listed.getD i false with
      | true => rfl
      | false =>
        exfalso
        have hmem : i ∈ Region.ready .any l.toArray listed := by
          unfold Region.ready
          rw [List.mem_filter]
          refine ⟨by simp; exact hi, ?_⟩
          have ho : l[i]? = some l[i] := List.getElem?_eq_getElem hi
          have ho' : l.toArray[i]? = some l[i] := by simp
          rw [ho']
          simp only [Option.map_some, Option.getD_some, Bool.and_eq_true]
          refine ⟨?_, ?_⟩
          · have hlt : i < listed.size := by rw [hinv.lsz]; exact hi
            rw [Array.getD_eq_getD_getElem?, Array.getElem?_eq_getElem hlt] at hl ⊢
            simp at hl ⊢
            exact hl
          · rw [Array.all_eq_true']
            intro e he
            by_cases hb : Region.binds .any e = true
            · have hlt := regOk_edges hok ho he hb
              rw [ih e.on hlt (by omega)]
              simp
            · simp [hb]
        rw [hr] at hmem
        cases hmem
  intro fuel
  induction fuel with
  | zero =>
    intro vs listed a w hinv hf hc
    have hall : ∀ i, i < l.length → listed.getD i false = true := by
      intro i hi
      cases hl : listed.getD i false with
      | true => rfl
      | false => exact absurd (hf i hi hl) (by omega)
    refine ⟨?_, hend vs listed a w hinv hall⟩
    unfold Region.ready
    rw [List.filter_eq_nil_iff]
    intro i hi
    have hi' : i < l.length := by simpa using hi
    have hlt : i < listed.size := by rw [hinv.lsz]; exact hi'
    have h1 := hall i hi'
    rw [Array.getD_eq_getD_getElem?, Array.getElem?_eq_getElem hlt] at h1
    simp at h1
    simp [Array.getD, hlt, h1]
  | succ fuel ih =>
    intro vs listed a w hinv hf hc
    refine ⟨fun hr => hend vs listed a w hinv (hready vs listed a w hinv hr), ?_⟩
    intro i hi
    unfold Region.ready at hi
    rw [List.mem_filter] at hi
    obtain ⟨hi1, hi2⟩ := hi
    have hil : i < l.length := by simpa using hi1
    have ho : l[i]? = some l[i] := List.getElem?_eq_getElem hil
    have ho' : l.toArray[i]? = some l[i] := by simp
    rw [ho'] at hi2
    simp only [Option.map_some, Option.getD_some, Bool.and_eq_true, Bool.not_eq_true'] at hi2
    refine region_step trans hok ho (hst i _ ho) hinv hi2.1 ?_ ?_
    · intro e he hb
      have := (Array.all_eq_true'.1 hi2.2) e he
      simpa [hb] using this
    · intro vs' a' w' hinv'
      have hlt : i < listed.size := by rw [hinv.lsz]; exact hil
      have hfl : listed[i] = false := by
        have := hi2.1
        rw [Array.getD_eq_getD_getElem?, Array.getElem?_eq_getElem hlt] at this
        simpa using this
      have hcnt : (listed.setIfInBounds i true).toList.countP (fun b => !b) + 1 = listed.toList.countP (fun b => !b) := by
        rw [Array.toList_setIfInBounds]
        have hlt' : i < listed.toList.length := by simpa using hlt
        have := List.countP_set (p := fun b => !b) (l := listed.toList) (a := true) (h := hlt')
        rw [this]
        have hpos : 0 < listed.toList.countP (fun b => !b) := List.countP_pos_iff.2 ⟨listed[i], by simp, by simp [hfl]⟩
        have e1 : listed.toList[i] = false := by simpa using hfl
        rw [e1]
        simp only [Bool.not_false, if_true, Bool.not_true, Bool.false_eq_true, if_false]
        omega
      refine ih vs' _ a' w' hinv' ?_ (by omega)
      intro j hj hjl
      rcases Nat.eq_zero_or_pos fuel with h0 | h0
      · exfalso
        have hz : (listed.setIfInBounds i true).toList.countP (fun b => !b) = 0 := by omega
        rw [List.countP_eq_zero] at hz
        have hjlt : j < (listed.setIfInBounds i true).size := by rw [hinv'.lsz]; exact hj
        rw [Array.getD_eq_getD_getElem?, Array.getElem?_eq_getElem hjlt] at hjl
        have := hz ((listed.setIfInBounds i true)[j]) (by rw [Array.mem_toList_iff]; exact Array.getElem_mem _)
        simp at hjl
        simp [hjl] at this
      · exact h0

/-- THE REGION: whatever the order. -/
theorem wp_region_ext {E : World → World → Prop} {id : Nat} (V : Nat → SP E) (hm : P.follows .mixedOrders = true) (refl : ∀ w, E w w) (trans : ∀ a b c, E a b → E b c → E a c) (drew : ∀ w, E w { w with drawn := w.drawn + 1 })
    (hok : regOk a0.tmps.size l = true) (hst : ∀ (i : Nat) (o : Oper), l[i]? = some o → StepOk P E V l a0 w0 i o)
    (hfin : ∀ (vs : Nat → Value) w', E w0 w' → (∀ i, i < l.length → (V i).p (vs i) w') → Q .normal (putAll l ((List.range l.length).map vs) a0) w') :
    (Code.region id l.toArray true).wp P Q a0 w0 := by
  refine wp_region_any hm ?_
  refine region_all trans hok hst hfin _ (fun _ => undef) _ a0 _ ⟨by simp, rfl, rfl, ?_, fun t _ => rfl, drew w0, ?_⟩ ?_ ?_
  · intro i o t h
    exfalso
    rw [Array.getD_eq_getD_getElem?] at h
    by_cases hi : i < l.length <;> simp [hi] at h
  · intro i h
    exfalso
    rw [Array.getD_eq_getD_getElem?] at h
    by_cases hi : i < l.length <;> simp [hi] at h
  · intro i hi _
    simp; omega
  · simp only [Array.toList_replicate, List.size_toArray]
    exact Nat.le_trans List.countP_le_length (by simp)
end

/-! ### The predicates most used -/
/-- What was there is there: the call's own blocks alone have come. -/
def Ext (w w' : World) : Prop := RowKit.Below w.heap.size w w'
theorem Ext.refl (w : World) : Ext w w := RowKit.Below.refl _ _
theorem Ext.trans (a b c : World) (h : Ext a b) (k : Ext b c) : Ext a c := RowKit.Below.trans h (RowKit.Below.mono k h.size)
theorem Ext.drew (w : World) : Ext w { w with drawn := w.drawn + 1 } := (RowKit.Below.refl _ w).drew
theorem Ext.alloc (w : World) (o : Obj) : Ext w (w.alloc o) := (RowKit.Below.refl _ w).alloc (Nat.le_refl _) o
/-- Just this value. -/
def SP.eq {E : World → World → Prop} (c : Value) : SP E := ⟨fun v _ => v = c, fun h _ => h⟩
def SP.any {E : World → World → Prop} : SP E := ⟨fun _ _ => True, fun h _ => h⟩
/-- A slice of one element of one cell, in a block of its own. -/
def SP.box (u : Value) : SP Ext := ⟨fun v w => ∃ g, v = .slice (some ⟨g, 0, none⟩) 1 1 ∧ w.cell? ⟨g, 0, none⟩ = some u, fun {v w w'} h hE => by
  obtain ⟨g, hv, hc⟩ := h
  exact ⟨g, hv, by rw [RowKit.Below.cell hE (p := ⟨g, 0, none⟩) (World.block_lt_of_cell? w _ hc)]; exact hc⟩⟩
theorem SP.eq_p {E : World → World → Prop} (c v : Value) (w : World) : ((SP.eq c : SP E).p v w) = (v = c) := rfl
theorem SP.any_p {E : World → World → Prop} (v : Value) (w : World) : ((SP.any : SP E).p v w) = True := rfl
theorem SP.box_p (u v : Value) (w : World) : ((SP.box u).p v w) = ∃ g, v = .slice (some ⟨g, 0, none⟩) 1 1 ∧ w.cell? ⟨g, 0, none⟩ = some u := rfl
/-- One operation, asked for over a frame of which is known: what stood in it that the region does not write; what the operations that it hangs on have yielded. -/
def StepA (P : Program) (V : Nat → SP Ext) (l : List Oper) (a0 : Act) (w0 : World) (i : Nat) (o : Oper) : Prop :=
  ∀ (S : Act) (W : World) (K : Act → World → Prop), Ext w0 W →
    (∀ t, (l.all fun o' => o'.dst != some t) = true → S.tmps.getD t undef = a0.tmps.getD t undef) →
    (∀ j o', l[j]? = some o' → (o.after.any fun e => e.on == j && Region.binds .any e) = true → (V j).p (valOf o' S) W) →
    (∀ v W', Ext W W' → (o.dst ≠ none → (V i).p v W') → K (S.put o.dst v) W') →
    (if Region.wanted o (yielded l.toArray S.tmps) then o.wp P S W K (fun _ _ _ => False) else (o.dst ≠ none → (V i).p undef W))
/-- The steps, one behind the other. -/
def Steps (P : Program) (V : Nat → SP Ext) (l : List Oper) (a0 : Act) (w0 : World) : Nat → List Oper → Prop
  | _, [] => True
  | i, o :: os => StepA P V l a0 w0 i o ∧ Steps P V l a0 w0 (i + 1) os
theorem Steps.all {P : Program} {V : Nat → SP Ext} {l : List Oper} {a0 : Act} {w0 : World} : ∀ (os : List Oper) (k : Nat), Steps P V l a0 w0 k os → ∀ (i : Nat) (o : Oper), os[i]? = some o → StepA P V l a0 w0 (k + i) o
  | [], _, _, i, o, h => by simp at h
  | o :: os, k, ⟨h0, h1⟩, 0, o', h => by
    simp at h
    subst h
    exact h0
  | o :: os, k, ⟨h0, h1⟩, i + 1, o', h => by
    have := Steps.all os (k + 1) h1 i o' (by simpa using h)
    rwa [show k + 1 + i = k + (i + 1) by omega] at this
/-- An operation that writes no slot yields nothing to speak of. -/
def SP.of (V : Nat → SP Ext) (l : List Oper) (i : Nat) : SP Ext := if ((l[i]?).bind (·.dst)).isSome then V i else SP.any
theorem SP.of_some {V : Nat → SP Ext} {l : List Oper} {i : Nat} {o : Oper} (h : l[i]? = some o) (hd : o.dst ≠ none) : SP.of V l i = V i := by
  unfold SP.of
  rw [h]
  cases hq : o.dst with
  | none => exact absurd hq hd
  | some d => simp [hq]
theorem SP.of_none {V : Nat → SP Ext} {l : List Oper} {i : Nat} {o : Oper} (h : l[i]? = some o) (hd : o.dst = none) : SP.of V l i = SP.any := by
  unfold SP.of
  rw [h]
  simp [hd]
theorem stepA_ok {P : Program} {V : Nat → SP Ext} {l : List Oper} {a0 : Act} {w0 : World} {i : Nat} {o : Oper} (hok : regOk a0.tmps.size l = true) (ho : l[i]? = some o)
    (hV : ∀ j (o' : Oper), l[j]? = some o' → o'.dst = none → ∀ v w, (V j).p v w) (h : StepA P V l a0 w0 i o) : StepOk P Ext (SP.of V l) l a0 w0 i o := by
  intro vs W hE hd
  have hput : ∀ t j (o' : Oper), l[j]? = some o' → o'.dst = some t → (putAll l ((List.range l.length).map vs) a0).tmps.getD t undef = vs j := by
    intro t j o' hj hdj
    obtain ⟨hdn, hu⟩ := regOk_dst hok hj hdj
    rw [Array.getD_eq_getD_getElem?, putAll_in l _ a0 t j o' (vs j) hj hdj (by have := (List.getElem?_eq_some_iff.1 hj).1; simp [this]) hdn hu]
    rfl
  have hs := h (putAll l ((List.range l.length).map vs) a0) W (StepK Ext ((SP.of V l i).p) o a0.defers W) hE ?_ ?_ ?_
  · split
    · rename_i hw; simpa only [hw, if_true] using hs
    · rename_i hw
      have hs' : o.dst ≠ none → (V i).p undef W := by simpa only [hw, if_false, Bool.false_eq_true] using hs
      refine ⟨Ext.refl _, ?_⟩
      cases hq : o.dst with
      | none => rw [SP.of_none ho hq]; exact trivial
      | some d =>
        rw [SP.of_some ho (by rw [hq]; exact fun h => by cases h)]
        exact hs' (by rw [hq]; exact fun h => by cases h)
  · intro t ht
    rw [Array.getD_eq_getD_getElem?, Array.getD_eq_getD_getElem?, putAll_out]
    intro j o' hj
    have := List.all_eq_true.1 ht o' (List.mem_of_getElem? hj)
    simpa using this
  · intro j o' hj hb
    rw [Array.any_eq_true'] at hb
    obtain ⟨e, he, hb⟩ := hb
    simp only [Bool.and_eq_true, beq_iff_eq] at hb
    obtain ⟨rfl, hb⟩ := hb
    have := hd e he hb
    cases hq : o'.dst with
    | none => exact hV _ o' hj hq _ _
    | some t =>
      rw [SP.of_some hj (by rw [hq]; exact fun h => by cases h)] at this
      unfold valOf
      rw [hq]
      simp only
      rw [hput t _ o' hj hq]
      exact this
  · intro v W' hE' hp
    refine ⟨?_, hE', ?_⟩
    · have : (putAll l ((List.range l.length).map vs) a0).defers = a0.defers := putAll_defers _ _ _
      rw [← this]
      cases o.dst <;> rfl
    · cases hq : o.dst with
      | none => rw [SP.of_none ho hq]; exact trivial
      | some d =>
        rw [SP.of_some ho (by rw [hq]; exact fun h => by cases h)]
        rw [← hq, valOf_put hq (by rw [putAll_size]; exact (regOk_dst hok ho hq).1)]
        exact hp (by rw [hq]; exact fun h => by cases h)
theorem wanted_none {l : List Oper} {S : Act} {o : Oper} (hg : o.guard = none) : Region.wanted o (yielded l.toArray S.tmps) = true := by simp [Region.wanted, hg]
theorem getD_bool {S : Act} {t : Nat} {b : Bool} (h : S.tmps.getD t undef = .bool b) : S.tmps[t]? = some (.bool b) := by
  rw [Array.getD_eq_getD_getElem?] at h
  cases hq : S.tmps[t]? with
  | none => rw [hq] at h; simp [undef] at h
  | some v => rw [hq] at h; simp at h; rw [h]
theorem wanted_is {l : List Oper} {S : Act} {o o' : Oper} {j t : Nat} {b b' : Bool} (hg : o.guard = some (j, b)) (hj : l[j]? = some o') (hd : o'.dst = some t) (hv : S.tmps.getD t undef = .bool b') : Region.wanted o (yielded l.toArray S.tmps) = (b' == b) := by
  unfold Region.wanted yielded
  rw [hg]
  have hj' : l.toArray[j]? = some o' := by simpa using hj
  simp only [hj', Option.bind_some, hd, getD_bool hv]
  cases b <;> cases b' <;> rfl
theorem want_free {l : List Oper} {S : Act} {o : Oper} {p q : Prop} (hg : o.guard = none) (h : p) : if Region.wanted o (yielded l.toArray S.tmps) = true then p else q := by rw [if_pos (wanted_none hg)]; exact h
theorem want_then {l : List Oper} {S : Act} {o o' : Oper} {j t : Nat} {b : Bool} {p q : Prop} (hv : S.tmps.getD t undef = .bool b) (hg : o.guard = some (j, b)) (hj : l[j]? = some o') (hd : o'.dst = some t) (h : p) : if Region.wanted o (yielded l.toArray S.tmps) = true then p else q := by
  rw [if_pos (by rw [wanted_is hg hj hd hv]; simp)]; exact h
theorem want_else {l : List Oper} {S : Act} {o o' : Oper} {j t : Nat} {b b' : Bool} {p q : Prop} (hv : S.tmps.getD t undef = .bool b') (hg : o.guard = some (j, b)) (hj : l[j]? = some o') (hd : o'.dst = some t) (hb : (b' == b) = false) (h : q) : if Region.wanted o (yielded l.toArray S.tmps) = true then p else q := by
  rw [if_neg (by rw [wanted_is hg hj hd hv, hb]; simp)]; exact h
theorem want_undef {l : List Oper} {S : Act} {o o' : Oper} {j t : Nat} {b : Bool} {p q : Prop} (hv : S.tmps.getD t undef = undef) (hg : o.guard = some (j, b)) (hj : l[j]? = some o') (hd : o'.dst = some t) (h : q) : if Region.wanted o (yielded l.toArray S.tmps) = true then p else q := by
  have hj' : l.toArray[j]? = some o' := by simpa using hj
  have hw : Region.wanted o (yielded l.toArray S.tmps) = false := by
    unfold Region.wanted yielded
    rw [hg]
    simp only [hj', Option.bind_some, hd]
    rw [Array.getD_eq_getD_getElem?] at hv
    cases hq : S.tmps[t]? with
    | none => rfl
    | some v =>
      rw [hq] at hv
      simp only [Option.getD_some] at hv
      subst hv
      rfl
  rw [if_neg (by rw [hw]; simp)]; exact h
/-- THE REGION, by its steps. -/
theorem wp_region_steps {P : Program} {l : List Oper} {Q : Exit → Act → World → Prop} {a0 : Act} {w0 : World} {id : Nat} (V : List (SP Ext)) (hm : P.follows .mixedOrders = true) (hok : regOk a0.tmps.size l = true)
    (hV : ∀ j (o' : Oper), l[j]? = some o' → o'.dst = none → ∀ v w, (V.getD j SP.any).p v w)
    (hst : Steps P (fun i => V.getD i SP.any) l a0 w0 0 l)
    (hfin : ∀ (vs : Nat → Value) w', Ext w0 w' → (∀ i o, l[i]? = some o → o.dst ≠ none → (V.getD i SP.any).p (vs i) w') → Q .normal (putAll l ((List.range l.length).map vs) a0) w') :
    (Code.region id l.toArray true).wp P Q a0 w0 :=
  wp_region_ext (SP.of (fun i => V.getD i SP.any) l) hm Ext.refl Ext.trans Ext.drew hok (fun i o ho => stepA_ok hok ho hV (by have := Steps.all l 0 hst i o ho; rwa [Nat.zero_add] at this))
    (fun vs w' hE h => hfin vs w' hE fun i o ho hd => by have := h i (List.getElem?_eq_some_iff.1 ho).1; rwa [SP.of_some ho hd] at this)
theorem all_dst {l : List Oper} (h : (l.all fun o => o.dst.isSome) = true) {p : Nat → Value → World → Prop} : ∀ j (o' : Oper), l[j]? = some o' → o'.dst = none → ∀ v w, p j v w := by
  intro j o' hj hd
  have := List.all_eq_true.1 h o' (List.mem_of_getElem? hj)
  rw [hd] at this
  cases this
end Go.Proofs.Ytaomhedjamnloaa
