/-
  No cell of these rows narrows 'for every input' (looked for: loops, veiled, ifaces, maps, wideKeys, modest, calm, conditions, laid).
  DERIVED. THE GIVEN ROWS OF THIS SEAT. 8 by the template 'for every input the law returns true; each argument reads behind the call as it read before'; 0 by the template 'total and deterministic' (their statements: YtkedmpppfejofaaTotals.lean).
  GIVEN WITH THE SEED: the statements are not yours to turn. If you find one false, say at which input.
  Laid BY PROGRAM, IN A SANDBOX (cutbox-rows.mjs): the forced cells as the released guide's own fill.sh prints them over the translation 38f23be5903f4137… (all of the seat's roots in one cut). By AI agents, Wed Nov 11 2026. No macro, syntax, notation, axiom, sorry.
-/
import Derived.Test.YtkedmpppfejofaaChecked
import GoSem.Claim
import GoSem.ClaimJoined
import GoSem.ClaimMapViews
import Derived.JoinedTies
import Derived.KernelRfl
namespace Go.Proofs.Ytkedmpppfejofaa
/- THE CELL 'sum', in the pinned program and in every row, IS THE sha256 OF THE DUMP (.gsa) THAT YtkedmpppfejofaaProg.lean LOADS. Nothing in Lean hashes anything: it is a label: what it is worth is what the hold of that sum in a sandbox is worth. -/
noncomputable def Try.pinned : Pinned := { name := "ytkedmpppfejofaa", sum := "38f23be5903f41371c9af60dcf2f034dea1c00f73c5dbf826691928add39d9d3", checked := Try.checked }
namespace Rows
def none {H : Type} : Left H := { results := [], args := [] }

/-- 'spandrellaw08.SessionChecks': WHATEVER THE INPUT: true; the input reads as it did. -/
def sessionChecksSpec : ChangeSpec := { name := "sessionChecks", fn := fun _ => fun
  | [d] => { results := [.lit (.bool true)], args := [d] }
  | _ => none }
def sessionChecksRow : OpenClaim := { program := "ytkedmpppfejofaa", sum := "38f23be5903f41371c9af60dcf2f034dea1c00f73c5dbf826691928add39d9d3", func := "spandrel/spandrellaw08.SessionChecks", spec := "sessionChecks", unfollowed := true, recurses := true, apart := false }
def SessionChecksSaid : Prop := sessionChecksRow.holds Try.pinned (OpenSpec.ofChange sessionChecksSpec)

/-- ITS FALSE NEIGHBOUR: 'it returns false'. Refute it at one input. -/
def sessionChecksWrong : ChangeSpec := { name := "sessionChecks", fn := fun _ => fun
  | [d] => { results := [.lit (.bool false)], args := [d] }
  | _ => none }
def SessionChecksWrongFalsely : Prop := sessionChecksRow.holds Try.pinned (OpenSpec.ofChange sessionChecksWrong)

/-- 'spandrellaw08.SessionOnce': WHATEVER THE INPUT: true; the input reads as it did. -/
def sessionOnceSpec : ChangeSpec := { name := "sessionOnce", fn := fun _ => fun
  | [d1, d2, d3] => { results := [.lit (.bool true)], args := [d1, d2, d3] }
  | _ => none }
def sessionOnceRow : OpenClaim := { program := "ytkedmpppfejofaa", sum := "38f23be5903f41371c9af60dcf2f034dea1c00f73c5dbf826691928add39d9d3", func := "spandrel/spandrellaw08.SessionOnce", spec := "sessionOnce", unfollowed := true, recurses := true, apart := false }
def SessionOnceSaid : Prop := sessionOnceRow.holds Try.pinned (OpenSpec.ofChange sessionOnceSpec)

/-- ITS FALSE NEIGHBOUR: 'it returns false'. Refute it at one input. -/
def sessionOnceWrong : ChangeSpec := { name := "sessionOnce", fn := fun _ => fun
  | [d1, d2, d3] => { results := [.lit (.bool false)], args := [d1, d2, d3] }
  | _ => none }
def SessionOnceWrongFalsely : Prop := sessionOnceRow.holds Try.pinned (OpenSpec.ofChange sessionOnceWrong)

/-- 'spandrellaw08.SessionTurns': WHATEVER THE INPUT: true; the input reads as it did. -/
def sessionTurnsSpec : ChangeSpec := { name := "sessionTurns", fn := fun _ => fun
  | [d] => { results := [.lit (.bool true)], args := [d] }
  | _ => none }
def sessionTurnsRow : OpenClaim := { program := "ytkedmpppfejofaa", sum := "38f23be5903f41371c9af60dcf2f034dea1c00f73c5dbf826691928add39d9d3", func := "spandrel/spandrellaw08.SessionTurns", spec := "sessionTurns", unfollowed := true, recurses := true, apart := false }
def SessionTurnsSaid : Prop := sessionTurnsRow.holds Try.pinned (OpenSpec.ofChange sessionTurnsSpec)

/-- ITS FALSE NEIGHBOUR: 'it returns false'. Refute it at one input. -/
def sessionTurnsWrong : ChangeSpec := { name := "sessionTurns", fn := fun _ => fun
  | [d] => { results := [.lit (.bool false)], args := [d] }
  | _ => none }
def SessionTurnsWrongFalsely : Prop := sessionTurnsRow.holds Try.pinned (OpenSpec.ofChange sessionTurnsWrong)

/-- 'spandrellaw08.SessionEnds': WHATEVER THE INPUT: true; the input reads as it did. -/
def sessionEndsSpec : ChangeSpec := { name := "sessionEnds", fn := fun _ => fun
  | [d1, d2] => { results := [.lit (.bool true)], args := [d1, d2] }
  | _ => none }
def sessionEndsRow : OpenClaim := { program := "ytkedmpppfejofaa", sum := "38f23be5903f41371c9af60dcf2f034dea1c00f73c5dbf826691928add39d9d3", func := "spandrel/spandrellaw08.SessionEnds", spec := "sessionEnds", unfollowed := true, recurses := true, apart := false }
def SessionEndsSaid : Prop := sessionEndsRow.holds Try.pinned (OpenSpec.ofChange sessionEndsSpec)

/-- ITS FALSE NEIGHBOUR: 'it returns false'. Refute it at one input. -/
def sessionEndsWrong : ChangeSpec := { name := "sessionEnds", fn := fun _ => fun
  | [d1, d2] => { results := [.lit (.bool false)], args := [d1, d2] }
  | _ => none }
def SessionEndsWrongFalsely : Prop := sessionEndsRow.holds Try.pinned (OpenSpec.ofChange sessionEndsWrong)

/-- 'spandrellaw08.SessionNobody': WHATEVER THE INPUT: true; the input reads as it did. -/
def sessionNobodySpec : ChangeSpec := { name := "sessionNobody", fn := fun _ => fun
  | [d] => { results := [.lit (.bool true)], args := [d] }
  | _ => none }
def sessionNobodyRow : OpenClaim := { program := "ytkedmpppfejofaa", sum := "38f23be5903f41371c9af60dcf2f034dea1c00f73c5dbf826691928add39d9d3", func := "spandrel/spandrellaw08.SessionNobody", spec := "sessionNobody", inPlace := ["maps.clone"], unfollowed := true, recurses := true, apart := false }
def SessionNobodySaid : Prop := sessionNobodyRow.holds Try.pinned (OpenSpec.ofChange sessionNobodySpec)

/-- ITS FALSE NEIGHBOUR: 'it returns false'. Refute it at one input. -/
def sessionNobodyWrong : ChangeSpec := { name := "sessionNobody", fn := fun _ => fun
  | [d] => { results := [.lit (.bool false)], args := [d] }
  | _ => none }
def SessionNobodyWrongFalsely : Prop := sessionNobodyRow.holds Try.pinned (OpenSpec.ofChange sessionNobodyWrong)

/-- 'spandrellaw08.SessionPlays': WHATEVER THE INPUT: true; the input reads as it did. -/
def sessionPlaysSpec : ChangeSpec := { name := "sessionPlays", fn := fun _ => fun
  | [d] => { results := [.lit (.bool true)], args := [d] }
  | _ => none }
def sessionPlaysRow : OpenClaim := { program := "ytkedmpppfejofaa", sum := "38f23be5903f41371c9af60dcf2f034dea1c00f73c5dbf826691928add39d9d3", func := "spandrel/spandrellaw08.SessionPlays", spec := "sessionPlays", inPlace := ["maps.clone"], unfollowed := true, recurses := true, apart := false }
def SessionPlaysSaid : Prop := sessionPlaysRow.holds Try.pinned (OpenSpec.ofChange sessionPlaysSpec)

/-- ITS FALSE NEIGHBOUR: 'it returns false'. Refute it at one input. -/
def sessionPlaysWrong : ChangeSpec := { name := "sessionPlays", fn := fun _ => fun
  | [d] => { results := [.lit (.bool false)], args := [d] }
  | _ => none }
def SessionPlaysWrongFalsely : Prop := sessionPlaysRow.holds Try.pinned (OpenSpec.ofChange sessionPlaysWrong)

/-- 'spandrellaw08.SessionBack': WHATEVER THE INPUT: true; the input reads as it did. -/
def sessionBackSpec : ChangeSpec := { name := "sessionBack", fn := fun _ => fun
  | [d1, d2] => { results := [.lit (.bool true)], args := [d1, d2] }
  | _ => none }
def sessionBackRow : OpenClaim := { program := "ytkedmpppfejofaa", sum := "38f23be5903f41371c9af60dcf2f034dea1c00f73c5dbf826691928add39d9d3", func := "spandrel/spandrellaw08.SessionBack", spec := "sessionBack", unfollowed := true, recurses := true, apart := false }
def SessionBackSaid : Prop := sessionBackRow.holds Try.pinned (OpenSpec.ofChange sessionBackSpec)

/-- ITS FALSE NEIGHBOUR: 'it returns false'. Refute it at one input. -/
def sessionBackWrong : ChangeSpec := { name := "sessionBack", fn := fun _ => fun
  | [d1, d2] => { results := [.lit (.bool false)], args := [d1, d2] }
  | _ => none }
def SessionBackWrongFalsely : Prop := sessionBackRow.holds Try.pinned (OpenSpec.ofChange sessionBackWrong)

/-- 'spandrellaw08.SessionLoads': WHATEVER THE INPUT: true; the input reads as it did. -/
def sessionLoadsSpec : ChangeSpec := { name := "sessionLoads", fn := fun _ => fun
  | [d] => { results := [.lit (.bool true)], args := [d] }
  | _ => none }
def sessionLoadsRow : OpenClaim := { program := "ytkedmpppfejofaa", sum := "38f23be5903f41371c9af60dcf2f034dea1c00f73c5dbf826691928add39d9d3", func := "spandrel/spandrellaw08.SessionLoads", spec := "sessionLoads", unfollowed := true, recurses := true, apart := false }
def SessionLoadsSaid : Prop := sessionLoadsRow.holds Try.pinned (OpenSpec.ofChange sessionLoadsSpec)

/-- ITS FALSE NEIGHBOUR: 'it returns false'. Refute it at one input. -/
def sessionLoadsWrong : ChangeSpec := { name := "sessionLoads", fn := fun _ => fun
  | [d] => { results := [.lit (.bool false)], args := [d] }
  | _ => none }
def SessionLoadsWrongFalsely : Prop := sessionLoadsRow.holds Try.pinned (OpenSpec.ofChange sessionLoadsWrong)

/- THE SECOND FORM. 'bulk': how many values and letters a reading holds, each counted each time it is reached (what is shared counts as often as it is met; a slice's spare places count too). A statement '..UptoSaid' is the law's where the arguments, and the package variables that the reading takes, are together of bulk at most 1048576: NARROWER than '..Said'. Prove '..Said' where nothing that the law and all that it calls make is longer than what came in: it says more and counts as full. Else prove '..UptoSaid'. A law counts once. -/
mutual
def uptoBulk {H : Type} : DataW H → Nat
  | .lit (.string bytes) => bytes.length + 1
  | .lit _ => 1
  | .nil => 1
  | .ptr d => uptoBulk d + 1
  | .slice elems spare => uptoBulkAll elems + uptoBulkAll spare + 1
  | .agg parts => uptoBulkAll parts + 1
  | .iface _ d => uptoBulk d + 1
  | .map entries => uptoBulkEntries entries + 1
  | .held _ => 1
def uptoBulkAll {H : Type} : List (DataW H) → Nat
  | [] => 0
  | d :: r => uptoBulk d + uptoBulkAll r
def uptoBulkEntries {H : Type} : List (Lit × DataW H) → Nat
  | [] => 0
  | x :: r => uptoBulkEntry x + uptoBulkEntries r
def uptoBulkEntry {H : Type} : Lit × DataW H → Nat
  | (.string bytes, d) => bytes.length + uptoBulk d + 1
  | (_, d) => uptoBulk d + 1
 end
def uptoSmall : (H : Type) → List (DataW H) → Bool := fun _ ds => decide (uptoBulkAll ds ≤ 1048576)
def OpenSpec.upto (s : _root_.Go.ChangeSpec) : _root_.Go.OpenSpec := { _root_.Go.OpenSpec.ofChange s with cond := some uptoSmall }

/-- 'spandrellaw08.SessionChecks', WHERE WHAT IT READS IS OF BULK AT MOST 1048576: true; the input reads as it did. -/
def sessionChecksUptoRow : OpenClaim := { program := "ytkedmpppfejofaa", sum := "38f23be5903f41371c9af60dcf2f034dea1c00f73c5dbf826691928add39d9d3", func := "spandrel/spandrellaw08.SessionChecks", spec := "sessionChecks", unfollowed := true, recurses := true, apart := false, narrowed := true }
def SessionChecksUptoSaid : Prop := sessionChecksUptoRow.holds Try.pinned (OpenSpec.upto sessionChecksSpec)

/-- 'spandrellaw08.SessionOnce', WHERE WHAT IT READS IS OF BULK AT MOST 1048576: true; the input reads as it did. -/
def sessionOnceUptoRow : OpenClaim := { program := "ytkedmpppfejofaa", sum := "38f23be5903f41371c9af60dcf2f034dea1c00f73c5dbf826691928add39d9d3", func := "spandrel/spandrellaw08.SessionOnce", spec := "sessionOnce", unfollowed := true, recurses := true, apart := false, narrowed := true }
def SessionOnceUptoSaid : Prop := sessionOnceUptoRow.holds Try.pinned (OpenSpec.upto sessionOnceSpec)

/-- 'spandrellaw08.SessionTurns', WHERE WHAT IT READS IS OF BULK AT MOST 1048576: true; the input reads as it did. -/
def sessionTurnsUptoRow : OpenClaim := { program := "ytkedmpppfejofaa", sum := "38f23be5903f41371c9af60dcf2f034dea1c00f73c5dbf826691928add39d9d3", func := "spandrel/spandrellaw08.SessionTurns", spec := "sessionTurns", unfollowed := true, recurses := true, apart := false, narrowed := true }
def SessionTurnsUptoSaid : Prop := sessionTurnsUptoRow.holds Try.pinned (OpenSpec.upto sessionTurnsSpec)

/-- 'spandrellaw08.SessionEnds', WHERE WHAT IT READS IS OF BULK AT MOST 1048576: true; the input reads as it did. -/
def sessionEndsUptoRow : OpenClaim := { program := "ytkedmpppfejofaa", sum := "38f23be5903f41371c9af60dcf2f034dea1c00f73c5dbf826691928add39d9d3", func := "spandrel/spandrellaw08.SessionEnds", spec := "sessionEnds", unfollowed := true, recurses := true, apart := false, narrowed := true }
def SessionEndsUptoSaid : Prop := sessionEndsUptoRow.holds Try.pinned (OpenSpec.upto sessionEndsSpec)

/-- 'spandrellaw08.SessionNobody', WHERE WHAT IT READS IS OF BULK AT MOST 1048576: true; the input reads as it did. -/
def sessionNobodyUptoRow : OpenClaim := { program := "ytkedmpppfejofaa", sum := "38f23be5903f41371c9af60dcf2f034dea1c00f73c5dbf826691928add39d9d3", func := "spandrel/spandrellaw08.SessionNobody", spec := "sessionNobody", inPlace := ["maps.clone"], unfollowed := true, recurses := true, apart := false, narrowed := true }
def SessionNobodyUptoSaid : Prop := sessionNobodyUptoRow.holds Try.pinned (OpenSpec.upto sessionNobodySpec)

/-- 'spandrellaw08.SessionPlays', WHERE WHAT IT READS IS OF BULK AT MOST 1048576: true; the input reads as it did. -/
def sessionPlaysUptoRow : OpenClaim := { program := "ytkedmpppfejofaa", sum := "38f23be5903f41371c9af60dcf2f034dea1c00f73c5dbf826691928add39d9d3", func := "spandrel/spandrellaw08.SessionPlays", spec := "sessionPlays", inPlace := ["maps.clone"], unfollowed := true, recurses := true, apart := false, narrowed := true }
def SessionPlaysUptoSaid : Prop := sessionPlaysUptoRow.holds Try.pinned (OpenSpec.upto sessionPlaysSpec)

/-- 'spandrellaw08.SessionBack', WHERE WHAT IT READS IS OF BULK AT MOST 1048576: true; the input reads as it did. -/
def sessionBackUptoRow : OpenClaim := { program := "ytkedmpppfejofaa", sum := "38f23be5903f41371c9af60dcf2f034dea1c00f73c5dbf826691928add39d9d3", func := "spandrel/spandrellaw08.SessionBack", spec := "sessionBack", unfollowed := true, recurses := true, apart := false, narrowed := true }
def SessionBackUptoSaid : Prop := sessionBackUptoRow.holds Try.pinned (OpenSpec.upto sessionBackSpec)

/-- 'spandrellaw08.SessionLoads', WHERE WHAT IT READS IS OF BULK AT MOST 1048576: true; the input reads as it did. -/
def sessionLoadsUptoRow : OpenClaim := { program := "ytkedmpppfejofaa", sum := "38f23be5903f41371c9af60dcf2f034dea1c00f73c5dbf826691928add39d9d3", func := "spandrel/spandrellaw08.SessionLoads", spec := "sessionLoads", unfollowed := true, recurses := true, apart := false, narrowed := true }
def SessionLoadsUptoSaid : Prop := sessionLoadsUptoRow.holds Try.pinned (OpenSpec.upto sessionLoadsSpec)

end Rows
end Go.Proofs.Ytkedmpppfejofaa
