/- What all rows of this seat use. -/
import Derived.Test.YtkmjcjhnfpkakaaRows
import Derived.Test.YtkmjcjhnfpkakaaOpen
set_option linter.unusedVariables false
set_option linter.unusedSimpArgs false
namespace Go.Proofs.Ytkmjcjhnfpkakaa
open Go
theorem own : ownKnob Try.prog.godebug = none := by kernel_rfl
theorem laidOut : laidOutB Try.prog = true := by kernel_rfl
theorem opens_bs : Opens Try.prog 24 (slk kb) := opens_slice Try.underlying24 (by kernel_rfl) (opens_byte Try.underlying5 (by kernel_rfl))
theorem opens_bss : Opens Try.prog 22 (slk (slk kb)) := opens_slice Try.underlying22 (by kernel_rfl) opens_bs
end Go.Proofs.Ytkmjcjhnfpkakaa
