/- A region that draws its order and ends in operations that hang on all the others: the others are walked once each, whatever the order; then the last ones, in the text's order. -/
import Derived.Test.YtaomhedjamnloaaRegion
set_option linter.unusedVariables false
set_option linter.unusedSimpArgs false
namespace Go.Proofs.Ytaomhedjamnloaa
open Go Go.RowKit

def depsOf (l : List Oper) (i : Nat) : List Nat := match l[i]? with
  | some o => (o.after.toList.filter fun e => Region.binds .any e).map (·.on)
  | none => []
/-- All that must have been listed, gone back through. -/
def backOf (l : List Oper) : Nat → List Nat → List Nat
  | 0, M => M
  | k + 1, M => backOf l k (if M.contains k then depsOf l k ++ M else M)
/-- Each operation from m on hangs on all ahead of it. -/
def hangOk (m : Nat) (l : List Oper) : Bool := (List.range l.length).all fun i => decide (i < m) || (let M := backOf l i (depsOf l i); (List.range i).all fun j => M.contains j)
def edgesOk (l : List Oper) : Bool := l.zipIdx.all fun (o, i) => o.after.all fun e => !Region.binds .any e || decide (e.on < i)
def guardsOk (m : Nat) (l : List Oper) : Bool := (l.take m).all fun o => match o.guard with | some (g, _) => decide (g < m) | none => true
def tailOk (m : Nat) (l : List Oper) : Bool := hangOk m l && edgesOk l && guardsOk m l
theorem edgesOk_at {l : List Oper} (h : edgesOk l = true) {i : Nat} {o : Oper} (ho : l[i]? = some o) {e : Edge} (he : e ∈ o.after) (hb : Region.binds .any e = true) : e.on < i := by
  unfold edgesOk at h
  have := List.all_eq_true.1 h (o, i) (by rw [List.mk_mem_zipIdx_iff_getElem?]; exact ho)
  simp only at this
  rw [Array.all_eq_true'] at this
  have := this e he
  rw [hb] at this
  simpa using this
def Closed (l : List Oper) (listed : Array Bool) : Prop := ∀ i, listed.getD i false = true → ∀ j ∈ depsOf l i, listed.getD j false = true
theorem backOf_listed {l : List Oper} {listed : Array Bool} (hc : Closed l listed) : ∀ (k : Nat) (M : List Nat), (∀ x ∈ M, listed.getD x false = true) → ∀ x ∈ backOf l k M, listed.getD x false = true
  | 0, M, h => h
  | k + 1, M, h => by
    unfold backOf
    refine backOf_listed hc k _ ?_
    split
    · rename_i hk
      intro x hx
      rcases List.mem_append.1 hx with hx | hx
      · exact hc k (h k (by simpa using hk)) x hx
      · exact h x hx
    · exact h
theorem tail_all {m : Nat} {l : List Oper} (ht : hangOk m l = true) {listed : Array Bool} (hc : Closed l listed) {i : Nat} (hm : m ≤ i) (hi : i < l.length) (hd : ∀ j ∈ depsOf l i, listed.getD j false = true) : ∀ j, j < i → listed.getD j false = true := by
  intro j hj
  have h1 := List.all_eq_true.1 ht i (by simpa using hi)
  simp only [Bool.or_eq_true, decide_eq_true_eq] at h1
  rcases h1 with h1 | h1
  · omega
  · have h2 := List.all_eq_true.1 h1 j (by simpa using hj)
    exact backOf_listed hc i _ hd j (by simpa using h2)
theorem ready_facts {l : List Oper} {listed : Array Bool} {i : Nat} (hi : i ∈ Region.ready .any l.toArray listed) : ∃ o, l[i]? = some o ∧ i < l.length ∧ listed.getD i true = false ∧ (∀ e ∈ o.after, Region.binds .any e = true → listed.getD e.on false = true) ∧ ∀ j ∈ depsOf l i, listed.getD j false = true := by
  unfold Region.ready at hi
  rw [List.mem_filter] at hi
  obtain ⟨hi1, hi2⟩ := hi
  have hil : i < l.length := by simpa using hi1
  have ho : l[i]? = some l[i] := List.getElem?_eq_getElem hil
  have ho' : l.toArray[i]? = some l[i] := by simp
  rw [ho'] at hi2
  simp only [Option.map_some, Option.getD_some, Bool.and_eq_true, Bool.not_eq_true'] at hi2
  have hd : ∀ e ∈ l[i].after, Region.binds .any e = true → listed.getD e.on false = true := by
    intro e he hb
    have := (Array.all_eq_true'.1 hi2.2) e he
    simpa [hb] using this
  refine ⟨l[i], ho, hil, hi2.1, hd, fun j hj => ?_⟩
  unfold depsOf at hj
  rw [ho] at hj
  simp only [List.mem_map, List.mem_filter] at hj
  obtain ⟨e, ⟨he, hb⟩, rfl⟩ := hj
  exact hd e (by simpa using he) hb
theorem ready_mem {l : List Oper} {listed : Array Bool} (hs : listed.size = l.length) {i : Nat} (hi : i < l.length) (hl : listed.getD i false = false) (hd : ∀ e ∈ l[i].after, Region.binds .any e = true → listed.getD e.on false = true) : i ∈ Region.ready .any l.toArray listed := by
  unfold Region.ready
  rw [List.mem_filter]
  refine ⟨by simp; exact hi, ?_⟩
  have ho' : l.toArray[i]? = some l[i] := by simp
  rw [ho']
  simp only [Option.map_some, Option.getD_some, Bool.and_eq_true]
  refine ⟨?_, ?_⟩
  · have hlt : i < listed.size := by rw [hs]; exact hi
    rw [Array.getD_eq_getD_getElem?, Array.getElem?_eq_getElem hlt] at hl ⊢
    simp at hl ⊢
    exact hl
  · rw [Array.all_eq_true']
    intro e he
    by_cases hb : Region.binds .any e = true
    · rw [hd e he hb]; simp
    · simp [hb]
theorem getD_set {listed : Array Bool} {i j : Nat} (hi : i < listed.size) : (listed.setIfInBounds i true).getD j false = if j = i then true else listed.getD j false := by
  rw [Array.getD_eq_getD_getElem?, Array.getD_eq_getD_getElem?]
  by_cases h : j = i
  · subst h; simp [hi]
  · rw [if_neg h, Array.getElem?_setIfInBounds_ne (Ne.symm h)]
theorem closed_set {l : List Oper} {listed : Array Bool} {i : Nat} (hi : i < listed.size) (hc : Closed l listed) (hd : ∀ j ∈ depsOf l i, listed.getD j false = true) : Closed l (listed.setIfInBounds i true) := by
  intro k hk j hj
  rw [getD_set hi] at hk ⊢
  by_cases hji : j = i
  · rw [if_pos hji]
  · rw [if_neg hji]
    by_cases hki : k = i
    · subst hki; exact hd j hj
    · rw [if_neg hki] at hk; exact hc k hk j hj
section
variable {P : Program} {l : List Oper} {Q : Exit → Act → World → Prop} {a0 : Act} {w0 : World}
theorem tail_go (hok : edgesOk l = true) {m : Nat} (ht : hangOk m l = true) : ∀ (fuel t : Nat) (listed : Array Bool) (a : Act) (w : World), listed.size = l.length → Closed l listed → m ≤ t → (∀ j, j < l.length → listed.getD j false = decide (j < t)) → l.length ≤ t + fuel →
    wpList P l.toArray Q (l.drop t) a w → wpAny P .any l.toArray Q fuel listed a w := by
  have hready : ∀ (t : Nat) (listed : Array Bool), listed.size = l.length → (∀ j, j < l.length → listed.getD j false = decide (j < t)) → t < l.length → t ∈ Region.ready .any l.toArray listed := by
    intro t listed hs hl htl
    refine ready_mem hs htl (by rw [hl t htl]; simp) fun e he hb => ?_
    have hlt := edgesOk_at hok (List.getElem?_eq_getElem htl) he hb
    rw [hl e.on (by omega)]
    simpa using hlt
  intro fuel
  induction fuel with
  | zero =>
    intro t listed a w hs hc hm hl hf hw
    refine ⟨?_, ?_⟩
    · rw [List.eq_nil_iff_forall_not_mem]
      intro i hi
      obtain ⟨o, _, hil, hnl, _⟩ := ready_facts hi
      have h1 := hl i hil
      have hlt : i < listed.size := by rw [hs]; exact hil
      rw [Array.getD_eq_getD_getElem?, Array.getElem?_eq_getElem hlt] at hnl h1
      simp at hnl h1
      rw [hnl] at h1
      simp at h1
      omega
    · rw [List.drop_eq_nil_of_le (by omega)] at hw
      exact hw
  | succ fuel ih =>
    intro t listed a w hs hc hm hl hf hw
    refine ⟨fun hr => ?_, fun i hi => ?_⟩
    · by_cases htl : t < l.length
      · have := hready t listed hs hl htl
        rw [hr] at this
        cases this
      · rw [List.drop_eq_nil_of_le (by omega)] at hw
        exact hw
    · obtain ⟨o, ho, hil, hnl, hd, hdd⟩ := ready_facts hi
      have hlt : i < listed.size := by rw [hs]; exact hil
      have hti : t ≤ i := by
        have h1 := hl i hil
        rw [Array.getD_eq_getD_getElem?, Array.getElem?_eq_getElem hlt] at hnl h1
        simp at hnl h1
        rw [hnl] at h1
        simpa using h1
      have hit : i = t := by
        rcases Nat.lt_or_ge t i with h | h
        · have := tail_all ht hc (Nat.le_trans hm hti) hil hdd t h
          rw [hl t (by omega)] at this
          simp at this
        · omega
      subst hit
      rw [List.drop_eq_getElem_cons hil] at hw
      have ho' : l.toArray[i]? = some l[i] := by simp
      have hstep : ∀ a' w', wpList P l.toArray Q (l.drop (i + 1)) a' w' → wpAny P .any l.toArray Q fuel (listed.setIfInBounds i true) a' w' := fun a' w' h =>
        ih (i + 1) _ a' w' (by simp [hs]) (closed_set hlt hc hdd) (by omega) (fun j hj => by
          rw [getD_set hlt]
          by_cases hji : j = i
          · subst hji; rw [if_pos rfl]; simp
          · rw [if_neg hji, hl j hj]
            congr 1
            exact propext (by omega)) (by omega) h
      refine wpOp_mono hstep ?_
      unfold wpOp
      rw [ho']
      exact hw
theorem take_at {m : Nat} {j : Nat} {o : Oper} (h : (l.take m)[j]? = some o) : l[j]? = some o ∧ j < m := by
  rw [List.getElem?_take] at h
  split at h
  · exact ⟨h, by assumption⟩
  · cases h
theorem wpOp_take {m i : Nat} (hi : i < m) (hg : guardsOk m l = true) {K : Act → World → Prop} {a : Act} {w : World} (h : wpOp P (l.take m).toArray Q i K a w) : wpOp P l.toArray Q i K a w := by
  unfold wpOp at h ⊢
  have e : (l.take m).toArray[i]? = l.toArray[i]? := by simp [List.getElem?_take, hi]
  rw [e] at h
  cases ho : l.toArray[i]? with
  | none => rw [ho] at h; exact h
  | some o =>
    rw [ho] at h
    simp only at h ⊢
    have hw : Region.wanted o (yielded (l.take m).toArray a.tmps) = Region.wanted o (yielded l.toArray a.tmps) := by
      unfold Region.wanted
      cases hq : o.guard with
      | none => rfl
      | some gb =>
        obtain ⟨g, b⟩ := gb
        have h2 := List.all_eq_true.1 hg o (List.mem_of_getElem? (i := i) (by rw [List.getElem?_take, if_pos hi]; simpa using ho))
        rw [hq] at h2
        simp only [decide_eq_true_eq] at h2
        have e2 : (l.take m).toArray[g]? = l.toArray[g]? := by simp [List.getElem?_take, h2]
        simp only
        unfold yielded
        rw [e2]
    rw [hw] at h
    exact h
theorem pre_go {E : World → World → Prop} {V : Nat → SP E} {m : Nat} (trans : ∀ a b c, E a b → E b c → E a c) (hok : regOk a0.tmps.size (l.take m) = true) (hml : m < l.length) (ht : hangOk m l = true) (he : edgesOk l = true) (hg : guardsOk m l = true)
    (hst : ∀ (i : Nat) (o : Oper), (l.take m)[i]? = some o → StepOk P E V (l.take m) a0 w0 i o)
    (hfin : ∀ (vs : Nat → Value) w', E w0 w' → (∀ i, i < m → (V i).p (vs i) w') → wpList P l.toArray Q (l.drop m) (putAll (l.take m) ((List.range m).map vs) a0) w') :
    ∀ (fuel : Nat) (vs : Nat → Value) (listed0 listed : Array Bool) (a : Act) (w : World), RInv E V (l.take m) a0 w0 vs listed0 a w → listed.size = l.length → (∀ j, j < m → listed0.getD j false = listed.getD j false) → Closed l listed → (∀ j, m ≤ j → j < l.length → listed.getD j false = false) → (listed.toList.countP (fun b => !b) ≤ fuel) → wpAny P .any l.toArray Q fuel listed a w := by
  have hlen : (l.take m).length = m := by rw [List.length_take]; omega
  have hend : ∀ (fuel : Nat) (vs : Nat → Value) (listed0 listed : Array Bool) (a : Act) (w : World), RInv E V (l.take m) a0 w0 vs listed0 a w → listed.size = l.length → (∀ j, j < m → listed0.getD j false = listed.getD j false) → Closed l listed → (∀ j, m ≤ j → j < l.length → listed.getD j false = false) → (∀ j, j < m → listed.getD j false = true) → l.length ≤ m + fuel → wpAny P .any l.toArray Q fuel listed a w := by
    intro fuel vs listed0 listed a w hinv hsz hag hc hno hall hf
    have hall0 : ∀ j, j < m → listed0.getD j false = true := fun j hj => (hag j hj).trans (hall j hj)
    have : a = putAll (l.take m) ((List.range m).map vs) a0 := by
      have h1 : a.tmps = (putAll (l.take m) ((List.range m).map vs) a0).tmps := by
        apply Array.ext_getElem?
        intro t
        by_cases hex : ∃ (j : Nat) (o' : Oper), (l.take m)[j]? = some o' ∧ o'.dst = some t
        · obtain ⟨j, o', hj, hd⟩ := hex
          have hjm := (take_at hj).2
          obtain ⟨hdn, hu⟩ := regOk_dst hok hj hd
          rw [hinv.wrote j o' t (hall0 j hjm) hj hd, putAll_in (l.take m) _ a0 t j o' (vs j) hj hd (by simp [hjm]) hdn hu]
        · have hno2 : ∀ (j : Nat) (o' : Oper), (l.take m)[j]? = some o' → o'.dst ≠ some t := fun j o' hj hd => hex ⟨j, o', hj, hd⟩
          rw [hinv.kept t (fun j o' _ hj => hno2 j o' hj), putAll_out (l.take m) _ a0 t hno2]
      have h2 : a.defers = (putAll (l.take m) ((List.range m).map vs) a0).defers := by rw [hinv.defs, putAll_defers]
      cases a; cases hq : putAll (l.take m) ((List.range m).map vs) a0
      rw [hq] at h1 h2
      simp at h1 h2
      rw [h1, h2]
    refine tail_go he ht fuel m listed a w hsz hc (Nat.le_refl _) (fun j hj => ?_) hf ?_
    · rcases Nat.lt_or_ge j m with h | h
      · rw [hall j h]; simp [h]
      · rw [hno j h hj]; simp [h]
    · rw [this]
      exact hfin vs w hinv.ext fun i hi => hinv.val i (hall0 i hi)
  have hcount : ∀ (listed : Array Bool), listed.size = l.length → (∀ j, m ≤ j → j < l.length → listed.getD j false = false) → l.length - m ≤ listed.toList.countP (fun b => !b) := by
    intro listed hs hno
    have h1 : listed.toList = listed.toList.take m ++ listed.toList.drop m := (List.take_append_drop _ _).symm
    rw [h1, List.countP_append]
    have h2 : (listed.toList.drop m).countP (fun b => !b) = (listed.toList.drop m).length := by
      rw [List.countP_eq_length]
      intro b hb
      obtain ⟨k, hk, rfl⟩ := List.mem_iff_getElem.1 hb
      rw [List.length_drop, Array.length_toList] at hk
      have := hno (m + k) (by omega) (by omega)
      rw [Array.getD_eq_getD_getElem?, Array.getElem?_eq_getElem (by omega)] at this
      rw [List.getElem_drop, Array.getElem_toList]
      simp at this
      rw [this]
      rfl
    rw [h2, List.length_drop, show listed.toList.length = l.length from (Array.length_toList (xs := listed)).trans hs]
    exact Nat.le_add_left _ _
  intro fuel
  induction fuel with
  | zero =>
    intro vs listed0 listed a w hinv hsz hag hc hno hcn
    have := Nat.le_trans (hcount listed hsz hno) hcn
    omega
  | succ fuel ih =>
    intro vs listed0 listed a w hinv hsz hag hc hno hcn
    by_cases hall : ∀ j, j < m → listed.getD j false = true
    · exact hend (fuel + 1) vs listed0 listed a w hinv hsz hag hc hno hall (by have := hcount listed hsz hno; omega)
    · refine ⟨fun hr => ?_, fun i hi => ?_⟩
      · exfalso
        apply hall
        intro j
        induction j using Nat.strongRecOn with
        | _ j ihj =>
          intro hj
          cases hl : listed.getD j false with
          | true => rfl
          | false =>
            exfalso
            have hjl : j < l.length := by omega
            have := ready_mem hsz hjl hl fun e hem hb => by
              have hlt := edgesOk_at he (List.getElem?_eq_getElem hjl) hem hb
              exact ihj e.on hlt (by omega)
            rw [hr] at this
            cases this
      · obtain ⟨o, ho, hil, hnl, hd, hdd⟩ := ready_facts hi
        have him : i < m := by
          rcases Nat.lt_or_ge i m with h | h
          · exact h
          · exact absurd (fun j hj => tail_all ht hc h hil hdd j (by omega)) hall
        have hlt : i < listed.size := by rw [hsz]; exact hil
        have hlt0 : i < listed0.size := by rw [hinv.lsz, hlen]; exact him
        have hfl : listed[i] = false := by
          have := hnl
          rw [Array.getD_eq_getD_getElem?, Array.getElem?_eq_getElem hlt] at this
          simpa using this
        have hnl0 : listed0.getD i true = false := by
          have h1 := hag i him
          rw [Array.getD_eq_getD_getElem?, Array.getD_eq_getD_getElem?, Array.getElem?_eq_getElem hlt, Array.getElem?_eq_getElem hlt0] at h1
          rw [Array.getD_eq_getD_getElem?, Array.getElem?_eq_getElem hlt0]
          simp at h1 ⊢
          rw [h1, hfl]
        have ho' : (l.take m)[i]? = some o := by rw [List.getElem?_take, if_pos him]; exact ho
        refine wpOp_take him hg (region_step trans hok ho' (hst i _ ho') hinv hnl0 (fun e hem hb => by rw [hag e.on (by have := edgesOk_at he ho hem hb; omega)]; exact hd e hem hb) fun vs' a' w' hinv' => ?_)
        refine ih vs' _ (listed.setIfInBounds i true) a' w' hinv' (by simp [hsz]) (fun j hj => by rw [getD_set hlt, getD_set hlt0]; split; rfl; exact hag j hj) (closed_set hlt hc hdd) (fun j hj hjl => by rw [getD_set hlt, if_neg (by omega)]; exact hno j hj hjl) ?_
        rw [Array.toList_setIfInBounds]
        have hlt' : i < listed.toList.length := by simpa using hlt
        have := List.countP_set (p := fun b => !b) (l := listed.toList) (a := true) (h := hlt')
        rw [this]
        have hpos : 0 < listed.toList.countP (fun b => !b) := List.countP_pos_iff.2 ⟨listed[i], by simp, by simp [hfl]⟩
        have e1 : listed.toList[i] = false := by simpa using hfl
        rw [e1]
        simp only [Bool.not_false, if_true, Bool.not_true, Bool.false_eq_true, if_false]
        omega
theorem wp_region_tail {id : Nat} (m : Nat) (V : List (SP Ext)) (hm : P.follows .mixedOrders = true) (hok : regOk a0.tmps.size (l.take m) = true) (hml : decide (m < l.length) = true) (ht : tailOk m l = true)
    (hV : ∀ j (o' : Oper), (l.take m)[j]? = some o' → o'.dst = none → ∀ v w, (V.getD j SP.any).p v w)
    (hst : Steps P (fun i => V.getD i SP.any) (l.take m) a0 w0 0 (l.take m))
    (hfin : ∀ (vs : Nat → Value) w', Ext w0 w' → (∀ i o, (l.take m)[i]? = some o → o.dst ≠ none → (V.getD i SP.any).p (vs i) w') → wpList P l.toArray Q (l.drop m) (putAll (l.take m) ((List.range m).map vs) a0) w') :
    (Code.region id l.toArray true).wp P Q a0 w0 := by
  unfold tailOk at ht
  simp only [Bool.and_eq_true] at ht
  have hml' := of_decide_eq_true hml
  have hlen : (l.take m).length = m := by rw [List.length_take]; omega
  refine wp_region_any hm ?_
  refine pre_go (E := Ext) (V := SP.of (fun i => V.getD i SP.any) (l.take m)) (m := m) Ext.trans hok hml' ht.1.1 ht.1.2 ht.2 (fun i o ho => stepA_ok hok ho hV ?_) (fun vs w' hE h => hfin vs w' hE fun i o ho hd => by have := h i (take_at ho).2; rwa [SP.of_some ho hd] at this) _ (fun _ => undef) (Array.replicate m false) _ a0 _ ⟨by simp [hlen], rfl, rfl, ?_, fun t _ => rfl, Ext.drew w0, ?_⟩ (by simp) ?_ ?_ ?_ ?_
  · have := Steps.all (l.take m) 0 hst i o ho
    rwa [Nat.zero_add] at this
  · intro i o t h
    exfalso
    rw [Array.getD_eq_getD_getElem?] at h
    by_cases hi : i < m <;> simp [hi] at h
  · intro i h
    exfalso
    rw [Array.getD_eq_getD_getElem?] at h
    by_cases hi : i < m <;> simp [hi] at h
  · intro j hj
    rw [Array.getD_eq_getD_getElem?, Array.getD_eq_getD_getElem?]
    have : j < l.length := by omega
    simp [hj, this]
  · intro i h
    exfalso
    rw [Array.getD_eq_getD_getElem?] at h
    by_cases hi : i < l.length <;> simp [hi] at h
  · intro j _ hj
    rw [Array.getD_eq_getD_getElem?]
    simp [hj]
  · simp only [Array.toList_replicate, List.size_toArray]
    exact Nat.le_trans List.countP_le_length (by simp)
end
theorem pre_dst {l : List Oper} {m : Nat} {V : List (SP Ext)} (h : ((l.take m).all fun o => o.dst.isSome) = true) : ∀ j (o' : Oper), (l.take m)[j]? = some o' → o'.dst = none → ∀ v w, (V.getD j SP.any).p v w := by
  intro j o' hj hd v w
  have := List.all_eq_true.1 h o' (List.mem_of_getElem? hj)
  rw [hd] at this
  cases this
end Go.Proofs.Ytaomhedjamnloaa
