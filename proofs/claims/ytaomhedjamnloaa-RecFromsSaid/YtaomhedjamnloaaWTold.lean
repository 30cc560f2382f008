/- Contract: told. -/
import Derived.Test.YtaomhedjamnloaaWItem
import Derived.Test.YtaomhedjamnloaaRegion2
set_option linter.unusedVariables false
set_option linter.unusedSimpArgs false
namespace Go.Proofs.Ytaomhedjamnloaa
open Go Go.RowKit

/-- Bytes that are read, in blocks from B on. -/
def Rd (w : World) (B : Nat) (v : Value) (l : List UInt8) : Prop := ∃ A c, v = .slice A l.length c ∧ l.length ≤ c ∧ c ≤ maxLen ∧ Row kb w (fun k => B ≤ k ∧ k < w.heap.size) A l
theorem Rd.ext {w w' : World} {B : Nat} {v : Value} {l : List UInt8} (h : Rd w B v l) (hE : Ext w w') : Rd w' B v l := by
  obtain ⟨A, c, e, h1, h2, hr⟩ := h
  exact ⟨A, c, e, h1, h2, (hr.move fun k hk => hE.block k hk.2).mono fun k hk => ⟨hk.1, Nat.lt_of_lt_of_le hk.2 hE.size⟩⟩
theorem Rd.lower {w : World} {B B' : Nat} {v : Value} {l : List UInt8} (h : Rd w B v l) (hB : B' ≤ B) : Rd w B' v l := by
  obtain ⟨A, c, e, h1, h2, hr⟩ := h
  exact ⟨A, c, e, h1, h2, hr.mono fun k hk => ⟨Nat.le_trans hB hk.1, hk.2⟩⟩
theorem Rd.of {w : World} {B : Nat} {F : Nat → Prop} {e : TypeId} {v : Value} {l : List UInt8} (h : Own kb e w B (fun _ => False) v l) : Rd w B v l := by
  have hat := fun k (hk : v.ownBlock = some k) => h.at hk
  obtain ⟨A, c, e, h1, h2, hr⟩ := h.sl
  exact ⟨A, c, e, h1, h2, hr.mono fun k hk => hat k (hk.resolve_left id)⟩
theorem Rd.nil (w : World) (B : Nat) : Rd w B (.slice none 0 0) [] := ⟨none, 0, rfl, Nat.le_refl _, Nat.zero_le _, Row.nil _ _ _ _⟩
def SP.own (B : Nat) (l : List UInt8) : SP Ext := ⟨fun v w => Rd w B v l, fun h hE => h.ext hE⟩
def tellM (x : ItM) : List UInt8 :=
  if x.kind = 0 then encN x.u else if x.kind = 1 then encN (zig x.n) else if x.kind = 2 then encT x.s else if x.kind = 3 then [if x.on then 1 else 0] else if x.kind = 4 then encTs x.l else if x.kind = 5 then encIs x.i else []
def toldB (x : ItM) : Bool := decide (0 ≤ x.kind ∧ x.kind ≤ 5)
def ToldIt (w : World) (x : ItM) (e : Ending) (w' : World) : Prop := ∃ va vb, e = .returned (.tuple #[va, vb, .bool (toldB x)]) ∧ Rd w' w.heap.size va (tellM x) ∧ Rd w' w.heap.size vb (tellM x) ∧ Below w.heap.size w w'
theorem encT_len (s : ByteArray) (h : s.size ≤ 300) : (encT s).length ≤ 310 := by
  have h1 := (encN_len s.size (by omega)).2
  have h2 : s.data.toList.length = s.size := Array.length_toList
  unfold encT
  rw [List.length_append, h2]
  omega
theorem flat_le {α : Type} (f : α → List UInt8) (b : Nat) : ∀ (l : List α), (∀ a ∈ l, (f a).length ≤ b) → (l.map f).flatten.length ≤ b * l.length
  | [], _ => Nat.zero_le _
  | a :: l, h => by
    have h1 := h a (List.mem_cons_self ..)
    have h2 := flat_le f b l fun x hx => h x (List.mem_cons_of_mem _ hx)
    simp only [List.map_cons, List.flatten_cons, List.length_append, List.length_cons]
    rw [Nat.mul_succ]
    omega
end Go.Proofs.Ytaomhedjamnloaa
