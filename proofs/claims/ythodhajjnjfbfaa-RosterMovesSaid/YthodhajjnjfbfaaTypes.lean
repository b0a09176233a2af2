/-
  The types of the seat's translation that the walks ask for.
-/
import Derived.Test.YthodhajjnjfbfaaProg
import Derived.Test.YthodhajjnjfbfaaOpens
set_option linter.unusedVariables false
set_option linter.unusedSimpArgs false
namespace Go.Proofs.Ythodhajjnjfbfaa
open Go.RowKit

theorem tInts : ElemT Try.prog 22 3 (.int .i64 0) 1 8 := ⟨Try.underlying22, by kernel_rfl, rfl, by omega, by omega⟩
theorem oByte : Opens Try.prog 5 kByte := opens_byte Try.underlying5 (by kernel_rfl)
theorem oInt : Opens Try.prog 3 kInt := opens_int Try.underlying3 (by kernel_rfl)
end Go.Proofs.Ythodhajjnjfbfaa
