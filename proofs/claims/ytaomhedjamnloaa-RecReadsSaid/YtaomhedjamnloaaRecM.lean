/- Contract: the document's small. -/
import Derived.Test.YtaomhedjamnloaaRecP3
import Derived.Test.YtaomhedjamnloaaRRd5
import Derived.Test.YtaomhedjamnloaaRecA
set_option linter.unusedVariables false
set_option linter.unusedSimpArgs false
namespace Go.Proofs.Ytaomhedjamnloaa
open Go Go.RowKit

theorem smallR_range (x : RdM) : -1 ≤ (smallR x).1 ∧ (smallR x).1 ≤ 2199023255552 := by
  unfold smallR
  simp only
  split <;> omega
set_option maxHeartbeats 800000 in
theorem qSmall_calls (w : World) (B g : Nat) (A : Option Addr) (c : Nat) (x : RdM) (h : QAt w B g A c x) :
    Calls Try.prog 64 #[.pointer (some ⟨g, 0, none⟩)] w (QPost w B g A c (smallR x).2 (.int .i64 (smallR x).1)) := by
  have Hu := Lib.hid (qUint_calls w B g A c x h)
  unfold smallR
  generalize UintR x = p at *
  obtain ⟨n, y⟩ := p
  simp only at *
  generalize hr : (if 2199023255552 < n then (-1 : Int) else (n : Int)) = r
  have Hr := Lib.hid hr
  clear hr h
  go_enter Try.func64, Try.ntmps64
  go_wp2_with fail
  refine Hu.out.mono ?_
  rintro e w1 ⟨rfl, hq, hm⟩
  by_cases hb : 2199023255552 < n
  · have hbi : (2199023255552 : Int) < (n : Int) := by omega
    have hd : decide ((2199023255552 : Int) < (n : Int)) = true := decide_eq_true hbi
    go_wp2
    go_ret
    exact ⟨ret_i64 (by rw [← Hr.out, if_pos hb]), hq, hm⟩
  · have hbi : ¬ (2199023255552 : Int) < (n : Int) := by omega
    have hd : decide ((2199023255552 : Int) < (n : Int)) = false := decide_eq_false hbi
    have hn : (n : Int) ≤ 2199023255552 := by omega
    have kw : IntKind.i64.wrap (n : Int) = (n : Int) := IntWalk.i64_in _ ⟨by omega, by omega⟩
    go_wp2
    go_ret
    exact ⟨ret_i64 (by rw [← Hr.out, if_neg hb]), hq, hm⟩
end Go.Proofs.Ytaomhedjamnloaa
