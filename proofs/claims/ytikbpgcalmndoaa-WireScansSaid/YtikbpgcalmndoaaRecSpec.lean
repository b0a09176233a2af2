/-
  The document's records: plain Lean, no program.
-/
import Derived.Test.YtikbpgcalmndoaaScanSpec
import Derived.Test.YtikbpgcalmndoaaSumSpec
set_option linter.unusedVariables false
set_option linter.unusedSimpArgs false
namespace Go.Proofs.Ytikbpgcalmndoaa

/-- A sum's four bytes. -/
def be4 (c : Nat) : List UInt8 := [byt (c / 16777216), byt (c / 65536), byt (c / 256), byt c]
theorem be4_len (c : Nat) : (be4 c).length = 4 := rfl
/-- What a payload's sum is of. -/
def body (p : List UInt8) : List UInt8 := byt 93 :: (digs p.length ++ p)
def rcd (p : List UInt8) : List UInt8 := body p ++ be4 (crc (body p))
def record (p : List UInt8) : List UInt8 × Nat := if 65536 < p.length then ([], 4) else (rcd p, 0)
/-- The record with which bytes begin. -/
def pick (b : List UInt8) : List UInt8 × Nat × Nat :=
  if b.length = 0 then ([], 0, 2) else if b[0]? ≠ some (byt 93) then ([], 0, 10) else
  if (rd (b.drop 1)).2.2 ≠ 0 then ([], 0, (rd (b.drop 1)).2.2) else
  if 65536 < (rd (b.drop 1)).1 then ([], 0, 4) else
  if b.length < 1 + (rd (b.drop 1)).2.1 + (rd (b.drop 1)).1 + 4 then ([], 0, 2) else
  if (b.drop (1 + (rd (b.drop 1)).2.1 + (rd (b.drop 1)).1)).take 4 ≠ be4 (crc (b.take (1 + (rd (b.drop 1)).2.1 + (rd (b.drop 1)).1))) then ([], 0, 11) else
  ((b.drop (1 + (rd (b.drop 1)).2.1)).take (rd (b.drop 1)).1, 1 + (rd (b.drop 1)).2.1 + (rd (b.drop 1)).1 + 4, 0)
end Go.Proofs.Ytikbpgcalmndoaa
