/-
  The types of the seat's translation that the walks ask for.
-/
import Derived.Test.YtikbpgcalmndoaaProg
import Derived.Test.YtikbpgcalmndoaaOpens
set_option linter.unusedVariables false
set_option linter.unusedSimpArgs false
namespace Go.Proofs.Ytikbpgcalmndoaa
open Go.RowKit

theorem tBytes : ElemT Try.prog 22 5 (.int .u8 0) 1 1 := ⟨Try.underlying22, by kernel_rfl, rfl, by omega, by omega⟩
theorem tRows : ElemT Try.prog 30 22 (.slice none 0 0) 1 24 := ⟨Try.underlying30, by kernel_rfl, rfl, by omega, by omega⟩
theorem tInts : ElemT Try.prog 65 3 (.int .i64 0) 1 8 := ⟨Try.underlying65, by kernel_rfl, rfl, by omega, by omega⟩
theorem oByte : Opens Try.prog 5 kByte := opens_byte Try.underlying5 (by kernel_rfl)
theorem oInt : Opens Try.prog 3 kInt := opens_int Try.underlying3 (by kernel_rfl)
theorem oBytes : Opens Try.prog 22 (kSlice kByte) := opens_slice Try.underlying22 (by kernel_rfl) oByte (by decide) (of_decide_eq_true (by kernel_rfl))
end Go.Proofs.Ytikbpgcalmndoaa
