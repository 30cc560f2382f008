/- Two records compared. -/
import Derived.Test.YtaomhedjamnloaaRecC
import Derived.Laws.StructEq
set_option linter.unusedVariables false
set_option linter.unusedSimpArgs false
namespace Go.Proofs.Ytaomhedjamnloaa
open Go Go.RowKit
theorem fields_rec : Try.prog.underlying 54 = some (.struct (Try.prog.fieldsOf 54)) := by kernel_rfl
theorem held_rec : Try.prog.stoodInHeld 54 = false := by kernel_rfl
theorem flds_rec : ((Try.prog.fieldsOf 54).toList.map fun f => (f.type, f.offset, f.name == "_")) = [(9, 0, false), (9, 1, false), (4, 2, false), (2, 3, false)] := by kernel_rfl
theorem bytes_dec (a b : ByteArray) : (a.toList == b.toList) = decide (a = b) := by
  rw [Bool.eq_iff_iff, beq_iff_eq, decide_eq_true_iff, ByteArray.toList_eq, ByteArray.toList_eq]
  exact ⟨fun h => ByteArray.ext (Array.ext' h), fun h => by rw [h]⟩
theorem part_one {P : Program} {t : TypeId} {d : TypeDesc} (hu : P.underlying t = some d) (hd : (match d with | .struct _ | .array _ _ => false | _ => true) = true) {xs : Array Value} {o : Nat} {v : Value} (h : xs[o]? = some v) (W : World) : (part t xs o).run P W = .ok v W := by
  have hag : (isAgg t).run P W = .ok false W := by
    cases d <;> first | (simp [isAgg, run_underlying hu]; done) | cases hd
  simp [part, hag, h]
theorem eqF_cons {P : Program} {d : Nat} {xs ys : Array Value} {f : Field} {fs : List Field} {W : World} {a b : Value} {r : Bool} {res : Bool} (hn : ¬ f.name = "_") (ha : (part f.type xs f.offset).run P W = .ok a W) (hb : (part f.type ys f.offset).run P W = .ok b W) (hr : (Op.equalIn d f.type a b).run P W = .ok r W)
    (hres : (Op.eqFields d xs ys fs).run P W = .ok res W) : (Op.eqFields d xs ys (f :: fs)).run P W = .ok (r && res) W := by
  unfold Op.eqFields
  rw [if_pos hn]
  simp only [Sem.run_bind, ha, hb, hr, Result.andThen_ok]
  cases r <;> simp [hres]
theorem eq_rec (w : World) (k v : ByteArray) (g : Bool) (t : Int) (k' v' : ByteArray) (g' : Bool) (t' : Int) :
    (Op.equalIn 10000 54 (.agg #[.string k, .string v, .bool g, .int .i64 t]) (.agg #[.string k', .string v', .bool g', .int .i64 t'])).run Try.prog w = .ok (decide ((k, v, g, t) = (k', v', g', t'))) w := by
  rw [show (10000 : Nat) = 9999 + 1 from rfl, run_equalIn_struct w 9999 54 _ _ fields_rec held_rec]
  have hf := flds_rec
  generalize (Try.prog.fieldsOf 54).toList = fs at *
  obtain ⟨f0, l0, rfl, h0, hf⟩ := List.map_eq_cons_iff.1 hf
  obtain ⟨f1, l1, rfl, h1, hf⟩ := List.map_eq_cons_iff.1 hf
  obtain ⟨f2, l2, rfl, h2, hf⟩ := List.map_eq_cons_iff.1 hf
  obtain ⟨f3, l3, rfl, h3, hf⟩ := List.map_eq_cons_iff.1 hf
  obtain rfl := List.map_eq_nil_iff.1 hf
  simp only [Prod.mk.injEq, beq_eq_false_iff_ne, ne_eq] at h0 h1 h2 h3
  obtain ⟨a0, b0, c0⟩ := h0
  obtain ⟨a1, b1, c1⟩ := h1
  obtain ⟨a2, b2, c2⟩ := h2
  obtain ⟨a3, b3, c3⟩ := h3
  have e := eqF_cons (P := Try.prog) (d := 9999) (W := w) (xs := #[.string k, .string v, .bool g, .int .i64 t]) (ys := #[.string k', .string v', .bool g', .int .i64 t']) (f := f0) (fs := [f1, f2, f3]) c0
    (by rw [a0, b0]; exact part_one Try.underlying9 rfl rfl w) (by rw [a0, b0]; exact part_one Try.underlying9 rfl rfl w) (by rw [a0]; exact run_equalIn_string w 9998 _ k k' Try.underlying9)
    (eqF_cons c1 (by rw [a1, b1]; exact part_one Try.underlying9 rfl rfl w) (by rw [a1, b1]; exact part_one Try.underlying9 rfl rfl w) (by rw [a1]; exact run_equalIn_string w 9998 _ v v' Try.underlying9)
      (eqF_cons c2 (by rw [a2, b2]; exact part_one Try.underlying4 rfl rfl w) (by rw [a2, b2]; exact part_one Try.underlying4 rfl rfl w) (by rw [a2]; exact run_equalIn_bool' w 9998 _ g g' Try.underlying4)
        (eqF_cons c3 (by rw [a3, b3]; exact part_one Try.underlying2 rfl rfl w) (by rw [a3, b3]; exact part_one Try.underlying2 rfl rfl w) (by rw [a3]; exact run_equalIn_int w 9998 _ .i64 .i64 t t' Try.underlying2) rfl)))
  rw [e, bytes_dec, bytes_dec]
  congr 1
  rw [Bool.eq_iff_iff]
  simp [Prod.ext_iff]
theorem neq_rec (w : World) (k v : ByteArray) (g : Bool) (t : Int) (k' v' : ByteArray) (g' : Bool) (t' : Int) :
    (binOp .neq 54 (.agg #[.string k, .string v, .bool g, .int .i64 t]) (.agg #[.string k', .string v', .bool g', .int .i64 t'])).run Try.prog w = .ok (.bool (!decide ((k, v, g, t) = (k', v', g', t')))) w := by
  rw [run_neq_struct, eq_rec]
  rfl
end Go.Proofs.Ytaomhedjamnloaa
