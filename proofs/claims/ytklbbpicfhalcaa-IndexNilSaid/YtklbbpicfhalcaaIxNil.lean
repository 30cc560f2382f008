/- Contracts: an index that is not there; IndexNil: the walk of the law. -/
import Derived.Test.YtklbbpicfhalcaaIx4
set_option linter.unusedVariables false
set_option linter.unusedSimpArgs false
namespace Go.Proofs.Ytklbbpicfhalcaa
open Go Go.RowKit
set_option maxRecDepth 8000
set_option maxHeartbeats 2000000 in
theorem nilFind_calls (w : World) (t : Int) : Calls Try.prog 12 #[.pointer none, .int .i64 t] w fun e w' => e = .returned (.tuple #[.agg #[.int .i64 0, .int .i64 0, .int .i64 0], .bool false]) ∧ Ext w w' := by
  go_enter Try.func12, Try.ntmps12
  go_wp2
  refine bodyPost_ret (results_cell2 rfl _ _ _ ⟨w.heap.size + 1 + 1, 0, none⟩ rfl (load_ent _ (.int .i64 0) (.int .i64 0) (.int .i64 0) _ (by
    have := heap_alloc_new ((w.alloc (.cells #[.pointer none] 22)).alloc (.cells #[.int .i64 t] 2)) (.cells #[.int .i64 0, .int .i64 0, .int .i64 0] 28)
    simpa using this))) rfl ?_
  exact ⟨rfl, Ext.trans _ _ _ (Ext.trans _ _ _ (Ext.alloc _ _) (Ext.alloc _ _)) (Ext.alloc _ _)⟩
set_option maxHeartbeats 2000000 in
theorem nilAfter_calls (w : World) (t : Int) : Calls Try.prog 16 #[.pointer none, .int .i64 t] w fun e w' => e = .returned (.tuple #[.agg #[.int .i64 0, .int .i64 0, .int .i64 0], .bool false]) ∧ Ext w w' := by
  go_enter Try.func16, Try.ntmps16
  go_wp2
  refine bodyPost_ret (results_cell2 rfl _ _ _ ⟨w.heap.size + 1 + 1, 0, none⟩ rfl (load_ent _ (.int .i64 0) (.int .i64 0) (.int .i64 0) _ (by
    have := heap_alloc_new ((w.alloc (.cells #[.pointer none] 22)).alloc (.cells #[.int .i64 t] 2)) (.cells #[.int .i64 0, .int .i64 0, .int .i64 0] 28)
    simpa using this))) rfl ?_
  exact ⟨rfl, Ext.trans _ _ _ (Ext.trans _ _ _ (Ext.alloc _ _) (Ext.alloc _ _)) (Ext.alloc _ _)⟩
set_option maxHeartbeats 2000000 in
theorem nilNote_calls (w : World) (o : Int) (p : Int) (t : Int) : Calls Try.prog 19 #[.pointer none, .int .i64 o, .int .i64 p, .int .i64 t] w fun e w' => e = .returned (.int .i64 1) ∧ w = w' := by
  go_enter Try.func19, Try.ntmps19
  go_wp2
  go_ret
  exact ⟨rfl, rfl⟩
set_option maxHeartbeats 2000000 in
theorem nilCut_calls (w : World) (o : Int) : Calls Try.prog 18 #[.pointer none, .int .i64 o] w fun e w' => e = .returned (.int .i64 1) ∧ w = w' := by
  go_enter Try.func18, Try.ntmps18
  go_wp2
  go_ret
  exact ⟨rfl, rfl⟩
set_option maxHeartbeats 2000000 in
theorem nilAll_calls (w : World) : Calls Try.prog 17 #[.pointer none] w fun e w' => e = .returned (.slice none 0 0) ∧ w = w' := by
  go_enter Try.func17, Try.ntmps17
  go_wp2
  go_ret
  exact ⟨rfl, rfl⟩
set_option maxHeartbeats 2000000 in
theorem nilLen_calls (w : World) : Calls Try.prog 14 #[.pointer none] w fun e w' => e = .returned (.int .i64 0) ∧ w = w' := by
  go_enter Try.func14, Try.ntmps14
  go_wp2
  go_ret
  exact ⟨rfl, rfl⟩
set_option maxHeartbeats 2000000 in
theorem nilGap_calls (w : World) : Calls Try.prog 13 #[.pointer none] w fun e w' => e = .returned (.int .i64 0) ∧ w = w' := by
  go_enter Try.func13, Try.ntmps13
  go_wp2
  go_ret
  exact ⟨rfl, rfl⟩
set_option maxHeartbeats 2000000 in
theorem nilBytes_calls (w : World) : Calls Try.prog 20 #[.pointer none] w fun e w' => e = .returned (.slice none 0 0) ∧ w = w' := by
  go_enter Try.func20, Try.ntmps20
  go_wp2
  go_ret
  exact ⟨rfl, rfl⟩
set_option maxRecDepth 100000 in
set_option maxHeartbeats 8000000 in
theorem IndexNil_calls (o p t : Int) (w : World) :
    Calls Try.prog 7 #[.int .i64 o, .int .i64 p, .int .i64 t] w fun e w' => e = .returned (.bool true) ∧ Below w.heap.size w w' := by
  go_enter Try.func7, Try.ntmps7
  go_wp2_with fail
  refine (nilFind_calls w o).mono ?_
  rintro e w1 ⟨rfl, hE1⟩
  go_wp2_with fail
  refine (nilAfter_calls _ t).mono ?_
  rintro e w2 ⟨rfl, hE2⟩
  go_wp2_with fail
  refine (nilNote_calls _ o p t).mono ?_
  rintro e w' ⟨rfl, rfl⟩
  go_wp2_with fail
  refine (nilCut_calls _ o).mono ?_
  rintro e w' ⟨rfl, rfl⟩
  go_wp2_with fail
  refine (nilAll_calls _).mono ?_
  rintro e w' ⟨rfl, rfl⟩
  go_wp2_with fail
  refine (nilLen_calls _).mono ?_
  rintro e w' ⟨rfl, rfl⟩
  go_wp2_with fail
  refine (nilGap_calls _).mono ?_
  rintro e w' ⟨rfl, rfl⟩
  go_wp2_with fail
  refine (nilBytes_calls _).mono ?_
  rintro e w' ⟨rfl, rfl⟩
  go_wp2_with fail
  refine (awake_calls _).mono ?_
  rintro e w10 ⟨rfl, hE10⟩
  go_wp2
  go_ret
  exact ⟨rfl, Ext.trans _ _ _ hE1 (Ext.trans _ _ _ (Ext.alloc _ _) (Ext.trans _ _ _ hE2 (Ext.trans _ _ _ (Ext.alloc _ _) hE10)))⟩
end Go.Proofs.Ytklbbpicfhalcaa
