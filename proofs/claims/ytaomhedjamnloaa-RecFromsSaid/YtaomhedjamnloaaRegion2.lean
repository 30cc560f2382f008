/- Predicates on slices for regions that draw their order. -/
import Derived.Test.YtaomhedjamnloaaRegion
import Derived.Test.YtaomhedjamnloaaBase2
set_option linter.unusedVariables false
set_option linter.unusedSimpArgs false
namespace Go.Proofs.Ytaomhedjamnloaa
open Go Go.RowKit
/-- A slice that reads as a list. -/
def IsSl {α : Type} (d : Kd α) (q : List α) (v : Value) (w : World) : Prop := ∃ A c, v = .slice A q.length c ∧ q.length ≤ c ∧ c ≤ maxLen ∧ Row d w (fun k => k < w.heap.size) A q
theorem IsSl.of {α : Type} {d : Kd α} {q : List α} {v : Value} {w : World} {F : Nat → Prop} (h : Sl d w F v q) : IsSl d q v w := h.lt
theorem IsSl.ext {α : Type} {d : Kd α} {q : List α} {v : Value} {w w' : World} (h : IsSl d q v w) (hE : Ext w w') : IsSl d q v w' := by
  obtain ⟨A, c, e, h1, h2, hr⟩ := h
  exact ⟨A, c, e, h1, h2, (hr.below hE).lt⟩
theorem Ext.cell {w W : World} (h : Ext w W) {a : Addr} {v : Value} (hc : w.cell? a = some v) : W.cell? a = some v := by
  rw [RowKit.Below.cell h (World.block_lt_of_cell? w a hc)]; exact hc
def SP.sl {α : Type} (d : Kd α) (q : List α) : SP Ext := ⟨fun v w => IsSl d q v w, fun h hE => h.ext hE⟩
theorem bytes_eq (a b : List UInt8) : ((⟨a.toArray⟩ : ByteArray) == ⟨b.toArray⟩) = decide (a = b) := by
  have e : ((⟨a.toArray⟩ : ByteArray) == ⟨b.toArray⟩) = (a.toArray == b.toArray) := rfl
  rw [e, Bool.eq_iff_iff]
  simp
theorem bytes_ne (a b : List UInt8) : ((⟨a.toArray⟩ : ByteArray) != ⟨b.toArray⟩) = !decide (a = b) := by
  rw [bne, bytes_eq]
end Go.Proofs.Ytaomhedjamnloaa
