/- Slices of ints as arguments. -/
import Derived.Test.YtklbbpicfhalcaaRowBase
set_option linter.unusedVariables false
set_option linter.unusedSimpArgs false
namespace Go.Proofs.Ytklbbpicfhalcaa
open Go
theorem opens_ints : Opens Try.prog 33 (slk (num .i64)) := opens_slice Try.underlying33 (by kernel_rfl) (opens_int Try.underlying3 (by kernel_rfl))
end Go.Proofs.Ytklbbpicfhalcaa
