/- What all rows of this seat use. -/
import Derived.Test.YtklbbpicfhalcaaRows
import Derived.Test.YtklbbpicfhalcaaOpen
set_option linter.unusedVariables false
set_option linter.unusedSimpArgs false
namespace Go.Proofs.Ytklbbpicfhalcaa
open Go
theorem own : ownKnob Try.prog.godebug = none := by kernel_rfl
theorem laidOut : laidOutB Try.prog = true := by kernel_rfl
theorem opens_bs : Opens Try.prog 46 (slk kb) := opens_slice Try.underlying46 (by kernel_rfl) (opens_byte Try.underlying5 (by kernel_rfl))
theorem opens_bss : Opens Try.prog 50 (slk (slk kb)) := opens_slice Try.underlying50 (by kernel_rfl) opens_bs
end Go.Proofs.Ytklbbpicfhalcaa
