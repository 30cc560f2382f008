/- What all rows of this seat use. -/
import Derived.Test.YtjmeoaookpnknaaRows
import Derived.Test.YtjmeoaookpnknaaOpen
set_option linter.unusedVariables false
set_option linter.unusedSimpArgs false
namespace Go.Proofs.Ytjmeoaookpnknaa
open Go
theorem own : ownKnob Try.prog.godebug = none := by kernel_rfl
theorem laidOut : laidOutB Try.prog = true := by kernel_rfl
theorem opens_bs : Opens Try.prog 23 (slk kb) := opens_slice Try.underlying23 (by kernel_rfl) (opens_byte Try.underlying5 (by kernel_rfl))
theorem opens_bss : Opens Try.prog 29 (slk (slk kb)) := opens_slice Try.underlying29 (by kernel_rfl) opens_bs
end Go.Proofs.Ytjmeoaookpnknaa
