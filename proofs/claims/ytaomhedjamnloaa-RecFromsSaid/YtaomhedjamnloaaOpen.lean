/- What an argument reads as, opened kind by kind. -/
import Derived.Test.YtaomhedjamnloaaBase
import Derived.OpenShut
import Derived.ProofKit
import Derived.ShutString
import Derived.ChangeOld
import Derived.SizedLaws
set_option linter.unusedVariables false
set_option linter.unusedSimpArgs false
namespace Go.Proofs.Ytaomhedjamnloaa
open Go Go.RowKit Go.ChangeShapes Go.WideShapes

/-- Whatever reads as of the type has the kind. -/
def Opens {α : Type} (P : Program) (t : TypeId) (d : Kd α) : Prop :=
  P.cellsOf t = d.sz ∧ ∀ {H : Type} {enc : TypeId × Value → H} {w : World} {base : Nat} {spare : Nat → Bool} {held : Bool} {fuel : Nat} {cs : List Value} {x : DataW H × List MemPlace},
    DataW.trod enc P w base spare held fuel t cs = some x → ∃ a, d.K w (fun k => k < w.heap.size) a cs

theorem opens_int {P : Program} {t : TypeId} {k : IntKind} (ht : P.underlying t = some (.int k)) (hc : P.cellsOf t = 1) : Opens P t (num k) := by
  refine ⟨hc, ?_⟩
  intro H enc w base spare held fuel cs x h
  obtain ⟨n, rfl, _, hwf⟩ := DataW.trod_int ht h
  exact ⟨n, rfl, hwf⟩
theorem opens_byte {P : Program} {t : TypeId} (ht : P.underlying t = some (.int .u8)) (hc : P.cellsOf t = 1) : Opens P t kb := by
  refine ⟨hc, ?_⟩
  intro H enc w base spare held fuel cs x h
  obtain ⟨n, rfl, _, hwf⟩ := DataW.trod_int ht h
  have hx : 0 ≤ n ∧ n ≤ 255 := by simpa [Lit.wf, IntKind.min, IntKind.max, IntKind.signed, IntKind.bits] using hwf
  refine ⟨UInt8.ofNat n.toNat, ?_, trivial⟩
  have : ((UInt8.ofNat n.toNat).toNat : Int) = n := by simp; omega
  show [Value.int IntKind.u8 n] = [Value.int IntKind.u8 ((UInt8.ofNat n.toNat).toNat : Int)]
  rw [this]
theorem opens_bool {P : Program} {t : TypeId} (ht : P.underlying t = some .bool) (hc : P.cellsOf t = 1) : Opens P t boo := by
  refine ⟨hc, ?_⟩
  intro H enc w base spare held fuel cs x h
  obtain ⟨b, rfl, _⟩ := DataW.trod_bool ht h
  exact ⟨b, rfl, trivial⟩
theorem opens_string {P : Program} {t : TypeId} (ht : P.underlying t = some .string) (hc : P.cellsOf t = 1) : Opens P t str := by
  refine ⟨hc, ?_⟩
  intro H enc w base spare held fuel cs x h
  obtain ⟨s, rfl, _, hs⟩ := DataW.trod_string ht h
  exact ⟨s, rfl, hs⟩
theorem opens_slice {α : Type} {P : Program} {t e : TypeId} {d : Kd α} (ht : P.underlying t = some (.slice e)) (hc : P.cellsOf t = 1) (hd : Opens P e d) : Opens P t (slk d) := by
  refine ⟨hc, ?_⟩
  intro H enc w base spare held fuel cs x h
  rcases DataW.trod_slice ht h with ⟨rfl, _⟩ | ⟨a, len, cap, elems, rest, n, _, rfl, _, hb, hl, hm, hlen, hel, _⟩
  · exact ⟨[], _, rfl, Sl.nil _ _ _⟩
  · have key : ∀ m, m ≤ len → ∃ (xs : List α) (cs : List Value), xs.length = m ∧ Reps (d.K w (fun k => k < w.heap.size)) d.sz xs cs ∧ ∀ j u, cs[j]? = some u → w.cell? (a.add j) = some u := by
      intro m
      induction m with
      | zero => exact fun _ => ⟨[], [], rfl, rfl, fun j u hj => by simp at hj⟩
      | succ m ih =>
        intro hm'
        obtain ⟨xs, cs, h1, h2, h3⟩ := ih (by omega)
        have he := hel m (by omega)
        rw [List.getElem?_eq_getElem (by omega)] at he
        obtain ⟨cs', hc1, hc2⟩ := Option.bind_eq_some_iff.1 he
        obtain ⟨_, hclen, hcell⟩ := World.cells?_some hc1
        obtain ⟨y, hy⟩ := hd.2 hc2
        refine ⟨xs ++ [y], cs ++ cs', by simp [h1], Reps.append h2 (Reps.single (d.len hy) hy), ?_⟩
        intro j u hj
        have hcs := h2.length
        rw [h1] at hcs
        rcases Nat.lt_or_ge j cs.length with hjl | hjl
        · rw [List.getElem?_append_left hjl] at hj
          exact h3 j u hj
        · rw [List.getElem?_append_right hjl] at hj
          have hjl' : j - cs.length < cs'.length := (List.getElem?_eq_some_iff.1 hj).1
          have := hcell (j - cs.length) (by omega)
          rw [Deep.add_add, hd.1, ← hcs, show cs.length + (j - cs.length) = j by omega] at this
          rw [this]
          exact hj
    obtain ⟨xs, cs, h1, h2, h3⟩ := key len (Nat.le_refl _)
    refine ⟨xs, _, rfl, some a, cap, by rw [h1], by rw [h1]; exact hl, hm, cs, ?_, h2⟩
    cases cs with
    | nil => exact .inl rfl
    | cons u cs =>
      refine .inr ⟨a, rfl, ?_, h3⟩
      have := World.block_lt_of_cell? w _ (h3 0 u rfl)
      rwa [add_block] at this

/-- Fields in line. -/
def OpensF {α : Type} (P : Program) (fs : List Field) (off : Nat) (d : Kd α) : Prop :=
  ∀ {H : Type} {enc : TypeId × Value → H} {w : World} {base : Nat} {spare : Nat → Bool} {held : Bool} {n : Nat} {cs : List Value},
    (∀ f ∈ fs, ∃ y, DataW.trod enc P w base spare held n f.type ((cs.drop f.offset).take (P.cellsOf f.type)) = some y) → off + d.sz ≤ cs.length → ∃ a, d.K w (fun k => k < w.heap.size) a ((cs.drop off).take d.sz)
theorem opensF_last {α : Type} {P : Program} {f : Field} {off : Nat} {d : Kd α} (hf : f.offset = off) (h : Opens P f.type d) : OpensF P [f] off d := by
  intro H enc w base spare held n cs hfs hl
  obtain ⟨y, hy⟩ := hfs f (List.mem_cons_self ..)
  rw [hf, h.1] at hy
  exact h.2 hy
theorem opensF_cons {α β : Type} {P : Program} {f : Field} {fs : List Field} {off : Nat} {d : Kd α} {e : Kd β} (hf : f.offset = off) (h : Opens P f.type d) (hr : OpensF P fs (off + d.sz) e) : OpensF P (f :: fs) off (pair d e) := by
  intro H enc w base spare held n cs hfs hl
  have hl' : off + (d.sz + e.sz) ≤ cs.length := hl
  obtain ⟨y, hy⟩ := hfs f (List.mem_cons_self ..)
  rw [hf, h.1] at hy
  obtain ⟨a, ha⟩ := h.2 hy
  obtain ⟨b, hb⟩ := hr (fun g hg => hfs g (List.mem_cons_of_mem _ hg)) (by omega)
  refine ⟨(a, b), _, _, ?_, ha, hb⟩
  show (cs.drop off).take (d.sz + e.sz) = _
  rw [List.take_add, List.drop_drop]
theorem opens_struct {α : Type} {P : Program} {t : TypeId} {fs : List Field} {d : Kd α} (ht : P.underlying t = some (.struct fs.toArray)) (hc : P.cellsOf t = d.sz) (h : OpensF P fs 0 d) : Opens P t d := by
  refine ⟨hc, ?_⟩
  intro H enc w base spare held fuel cs x hx
  obtain ⟨xs, n, _, _, hlen, hxs, hf⟩ := DataW.trod_struct ht hx
  obtain ⟨a, ha⟩ := h (n := n) (cs := cs) (enc := enc) (w := w) (base := base) (spare := spare) (held := held) (fun f hfm => by
    obtain ⟨i, hi⟩ := List.mem_iff_getElem?.1 hfm
    have h1 := hf i f (by simpa using hi)
    have hil : i < fs.length := (List.getElem?_eq_some_iff.1 hi).1
    rw [List.getElem?_eq_getElem (by rw [hxs]; simpa using hil)] at h1
    exact ⟨_, h1⟩) (by omega)
  rw [List.drop_zero, List.take_of_length_le (by omega)] at ha
  exact ⟨a, ha⟩
theorem opens_iso {α β : Type} {P : Program} {t : TypeId} {d : Kd α} {f : β → α} {g : α → β} (hfg : ∀ a, f (g a) = a) (h : Opens P t d) : Opens P t (iso d f) := by
  refine ⟨h.1, ?_⟩
  intro H enc w base spare held fuel cs x hx
  obtain ⟨a, ha⟩ := h.2 hx
  exact ⟨g a, by show d.K w _ (f (g a)) cs; rw [hfg]; exact ha⟩

/-- A slice that came in as an argument. -/
theorem open_arg {α : Type} {H : Type} {enc : TypeId × Value → H} {P : Program} {w : World} {base : Nat} {spare : Nat → Bool} {held : Bool} {r : Reach} {b0 : Nat} {t e : TypeId} {d : Kd α} {v : Value} {dd : DataW H} {ps : List MemPlace}
    (ht : P.underlying t = some (.slice e)) (hd : Opens P t (slk d)) (hval : Value.okWide P w r b0 t v) (h : DataW.Trod enc P w base spare held t v dd ps) :
    ∃ (A : Option Addr) (c : Nat) (xs : List α), v = .slice A xs.length c ∧ xs.length ≤ c ∧ c ≤ maxLen ∧ Row d w (fun k => k < w.heap.size) A xs := by
  obtain ⟨a, l, c, rfl⟩ := okWide_slice ht hval
  obtain ⟨fuel, hf⟩ := h
  obtain ⟨xs, v', e1, A, c', e2, h1, h2, hr⟩ := hd.2 hf
  have e3 : [Value.slice a l c] = [v'] := e1
  injection e3 with e3
  subst e3
  injection e2 with e4 e5 e6
  subst e4; subst e5; subst e6
  exact ⟨_, _, xs, rfl, h1, h2, hr⟩
end Go.Proofs.Ytaomhedjamnloaa
