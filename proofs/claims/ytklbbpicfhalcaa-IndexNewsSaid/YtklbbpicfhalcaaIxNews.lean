/- IndexNews: the walk of the law. -/
import Derived.Test.YtklbbpicfhalcaaIx4
set_option linter.unusedVariables false
set_option linter.unusedSimpArgs false
namespace Go.Proofs.Ytklbbpicfhalcaa
open Go Go.RowKit

theorem find_new (gap o : Int) : findM (newM gap) o = ((0, 0, 0), false) := rfl
theorem rising_nil : Rising [] := fun i j _ hj => by simp at hj
set_option maxRecDepth 8000 in
set_option maxHeartbeats 4000000 in
theorem IndexNews_calls (gap o : Int) (w : World) (hg : -9223372036854775808 ≤ gap ∧ gap ≤ 9223372036854775807) :
    Calls Try.prog 3 #[.int .i64 gap, .int .i64 o] w fun e w' => e = .returned (.bool true) ∧ Below w.heap.size w w' := by
  go_enter Try.func3, Try.ntmps3
  go_wp2_with fail
  refine (New_calls gap w hg).mono ?_
  rintro e w1 (⟨hbad, rfl, hE1⟩ | ⟨hlo, hhi, g, rfl, hx, hE1⟩)
  · by_cases h1 : gap < 1
    · clear hbad
      go_wp2_with fail
      refine (awake_calls w1).mono ?_
      rintro e w2 ⟨rfl, hE2⟩
      go_wp2
      go_ret
      exact ⟨rfl, Ext.trans _ _ _ hE1 hE2⟩
    · have h2 : 4194304 < gap := by omega
      clear hbad
      go_wp2_with fail
      refine (awake_calls w1).mono ?_
      rintro e w2 ⟨rfl, hE2⟩
      go_wp2
      go_ret
      exact ⟨rfl, Ext.trans _ _ _ hE1 hE2⟩
  · have Hf := Lib.hid (Find_calls w1 _ g _ _ hx o (by simp [newM]) rising_nil)
    rw [find_new] at Hf
    go_wp2_with fail
    refine Hf.out.mono ?_
    rintro e w2 ⟨rfl, hE2⟩
    simp only [entV]
    have hx2 := hx.ext hE2
    have hE3 : Ext w2 (w2.alloc (.cells #[.int .i64 0, .int .i64 0, .int .i64 0] 28)) := Ext.alloc _ _
    have hx3 := hx2.ext hE3
    have hEE := Ext.trans _ _ _ hE1 (Ext.trans _ _ _ hE2 hE3)
    have Hg := Lib.hid (Gap_calls _ _ g _ _ hx3)
    have Hl := Lib.hid (Len_calls _ _ g _ _ hx3)
    clear Hf hx hx2 hx3 hE1 hE2 hE3
    go_wp2_with fail
    refine Hg.out.mono ?_
    rintro e w4 ⟨rfl, rfl⟩
    simp only [newM]
    go_wp2_with fail
    refine Hl.out.mono ?_
    rintro e w4 ⟨rfl, rfl⟩
    simp only [newM, List.length_nil]
    go_wp2_with fail
    refine (awake_calls _).mono ?_
    rintro e w5 ⟨rfl, hE5⟩
    go_wp2
    go_ret
    exact ⟨rfl, Ext.trans _ _ _ hEE hE5⟩
end Go.Proofs.Ytklbbpicfhalcaa
