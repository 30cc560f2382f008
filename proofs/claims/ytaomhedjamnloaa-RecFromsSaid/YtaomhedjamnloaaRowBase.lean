/- What all rows of this seat use. -/
import Derived.Test.YtaomhedjamnloaaRows
import Derived.Test.YtaomhedjamnloaaOpen
set_option linter.unusedVariables false
set_option linter.unusedSimpArgs false
namespace Go.Proofs.Ytaomhedjamnloaa
open Go
theorem own : ownKnob Try.prog.godebug = none := by kernel_rfl
theorem laidOut : laidOutB Try.prog = true := by kernel_rfl
theorem opens_bs : Opens Try.prog 31 (slk kb) := opens_slice Try.underlying31 (by kernel_rfl) (opens_byte Try.underlying5 (by kernel_rfl))
theorem opens_bss : Opens Try.prog 64 (slk (slk kb)) := opens_slice Try.underlying64 (by kernel_rfl) opens_bs
end Go.Proofs.Ytaomhedjamnloaa
