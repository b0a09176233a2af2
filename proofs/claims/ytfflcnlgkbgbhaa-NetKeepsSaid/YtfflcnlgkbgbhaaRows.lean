/-
  No cell of these rows narrows 'for every input' (looked for: loops, veiled, ifaces, maps, wideKeys, modest, calm, conditions, laid).
  DERIVED. THE GIVEN ROWS OF THIS SEAT. 7 by the template 'for every input the law returns true; each argument reads behind the call as it read before'; 0 by the template 'total and deterministic' (their statements: YtfflcnlgkbgbhaaTotals.lean).
  GIVEN WITH THE SEED: the statements are not yours to turn. If you find one false, say at which input.
  Laid BY PROGRAM, IN A SANDBOX (cutbox-rows.mjs): the forced cells as the released guide's own fill.sh prints them over the translation 1b0fbef3e420c952… (all of the seat's roots in one cut). By AI agents, Wed Nov 11 2026. No macro, syntax, notation, axiom, sorry.
-/
import Derived.Test.YtfflcnlgkbgbhaaChecked
import GoSem.Claim
import GoSem.ClaimJoined
import GoSem.ClaimMapViews
import Derived.JoinedTies
import Derived.KernelRfl
namespace Go.Proofs.Ytfflcnlgkbgbhaa
/- THE CELL 'sum', in the pinned program and in every row, IS THE sha256 OF THE DUMP (.gsa) THAT YtfflcnlgkbgbhaaProg.lean LOADS. Nothing in Lean hashes anything: it is a label: what it is worth is what the hold of that sum in a sandbox is worth. -/
noncomputable def Try.pinned : Pinned := { name := "ytfflcnlgkbgbhaa", sum := "1b0fbef3e420c9525350a5ce36a73afe1c14ce31deea4a012278254164a03462", checked := Try.checked }
namespace Rows
def none {H : Type} : Left H := { results := [], args := [] }

/-- 'spandrellaw13.NetPuts': WHATEVER THE INPUT: true; the input reads as it did. -/
def netPutsSpec : ChangeSpec := { name := "netPuts", fn := fun _ => fun
  | [d] => { results := [.lit (.bool true)], args := [d] }
  | _ => none }
def netPutsRow : OpenClaim := { program := "ytfflcnlgkbgbhaa", sum := "1b0fbef3e420c9525350a5ce36a73afe1c14ce31deea4a012278254164a03462", func := "spandrel/spandrellaw13.NetPuts", spec := "netPuts", unfollowed := true, recurses := true, apart := false }
def NetPutsSaid : Prop := netPutsRow.holds Try.pinned (OpenSpec.ofChange netPutsSpec)

/-- ITS FALSE NEIGHBOUR: 'it returns false'. Refute it at one input. -/
def netPutsWrong : ChangeSpec := { name := "netPuts", fn := fun _ => fun
  | [d] => { results := [.lit (.bool false)], args := [d] }
  | _ => none }
def NetPutsWrongFalsely : Prop := netPutsRow.holds Try.pinned (OpenSpec.ofChange netPutsWrong)

/-- 'spandrellaw13.NetGets': WHATEVER THE INPUT: true; the input reads as it did. -/
def netGetsSpec : ChangeSpec := { name := "netGets", fn := fun _ => fun
  | [d] => { results := [.lit (.bool true)], args := [d] }
  | _ => none }
def netGetsRow : OpenClaim := { program := "ytfflcnlgkbgbhaa", sum := "1b0fbef3e420c9525350a5ce36a73afe1c14ce31deea4a012278254164a03462", func := "spandrel/spandrellaw13.NetGets", spec := "netGets", unfollowed := true, recurses := true, apart := false }
def NetGetsSaid : Prop := netGetsRow.holds Try.pinned (OpenSpec.ofChange netGetsSpec)

/-- ITS FALSE NEIGHBOUR: 'it returns false'. Refute it at one input. -/
def netGetsWrong : ChangeSpec := { name := "netGets", fn := fun _ => fun
  | [d] => { results := [.lit (.bool false)], args := [d] }
  | _ => none }
def NetGetsWrongFalsely : Prop := netGetsRow.holds Try.pinned (OpenSpec.ofChange netGetsWrong)

/-- 'spandrellaw13.NetBack': WHATEVER THE INPUT: true; the input reads as it did. -/
def netBackSpec : ChangeSpec := { name := "netBack", fn := fun _ => fun
  | [d1, d2] => { results := [.lit (.bool true)], args := [d1, d2] }
  | _ => none }
def netBackRow : OpenClaim := { program := "ytfflcnlgkbgbhaa", sum := "1b0fbef3e420c9525350a5ce36a73afe1c14ce31deea4a012278254164a03462", func := "spandrel/spandrellaw13.NetBack", spec := "netBack", unfollowed := true, recurses := true, apart := false }
def NetBackSaid : Prop := netBackRow.holds Try.pinned (OpenSpec.ofChange netBackSpec)

/-- ITS FALSE NEIGHBOUR: 'it returns false'. Refute it at one input. -/
def netBackWrong : ChangeSpec := { name := "netBack", fn := fun _ => fun
  | [d1, d2] => { results := [.lit (.bool false)], args := [d1, d2] }
  | _ => none }
def NetBackWrongFalsely : Prop := netBackRow.holds Try.pinned (OpenSpec.ofChange netBackWrong)

/-- 'spandrellaw13.NetTurned': WHATEVER THE INPUT: true; the input reads as it did. -/
def netTurnedSpec : ChangeSpec := { name := "netTurned", fn := fun _ => fun
  | [d1, d2, d3] => { results := [.lit (.bool true)], args := [d1, d2, d3] }
  | _ => none }
def netTurnedRow : OpenClaim := { program := "ytfflcnlgkbgbhaa", sum := "1b0fbef3e420c9525350a5ce36a73afe1c14ce31deea4a012278254164a03462", func := "spandrel/spandrellaw13.NetTurned", spec := "netTurned", unfollowed := true, recurses := true, apart := false }
def NetTurnedSaid : Prop := netTurnedRow.holds Try.pinned (OpenSpec.ofChange netTurnedSpec)

/-- ITS FALSE NEIGHBOUR: 'it returns false'. Refute it at one input. -/
def netTurnedWrong : ChangeSpec := { name := "netTurned", fn := fun _ => fun
  | [d1, d2, d3] => { results := [.lit (.bool false)], args := [d1, d2, d3] }
  | _ => none }
def NetTurnedWrongFalsely : Prop := netTurnedRow.holds Try.pinned (OpenSpec.ofChange netTurnedWrong)

/-- 'spandrellaw13.NetPlays': WHATEVER THE INPUT: true; the input reads as it did. -/
def netPlaysSpec : ChangeSpec := { name := "netPlays", fn := fun _ => fun
  | [d] => { results := [.lit (.bool true)], args := [d] }
  | _ => none }
def netPlaysRow : OpenClaim := { program := "ytfflcnlgkbgbhaa", sum := "1b0fbef3e420c9525350a5ce36a73afe1c14ce31deea4a012278254164a03462", func := "spandrel/spandrellaw13.NetPlays", spec := "netPlays", unfollowed := true, recurses := true, apart := false }
def NetPlaysSaid : Prop := netPlaysRow.holds Try.pinned (OpenSpec.ofChange netPlaysSpec)

/-- ITS FALSE NEIGHBOUR: 'it returns false'. Refute it at one input. -/
def netPlaysWrong : ChangeSpec := { name := "netPlays", fn := fun _ => fun
  | [d] => { results := [.lit (.bool false)], args := [d] }
  | _ => none }
def NetPlaysWrongFalsely : Prop := netPlaysRow.holds Try.pinned (OpenSpec.ofChange netPlaysWrong)

/-- 'spandrellaw13.NetNobody': WHATEVER THE INPUT: true; the input reads as it did. -/
def netNobodySpec : ChangeSpec := { name := "netNobody", fn := fun _ => fun
  | [d] => { results := [.lit (.bool true)], args := [d] }
  | _ => none }
def netNobodyRow : OpenClaim := { program := "ytfflcnlgkbgbhaa", sum := "1b0fbef3e420c9525350a5ce36a73afe1c14ce31deea4a012278254164a03462", func := "spandrel/spandrellaw13.NetNobody", spec := "netNobody", unfollowed := true, recurses := true, apart := false }
def NetNobodySaid : Prop := netNobodyRow.holds Try.pinned (OpenSpec.ofChange netNobodySpec)

/-- ITS FALSE NEIGHBOUR: 'it returns false'. Refute it at one input. -/
def netNobodyWrong : ChangeSpec := { name := "netNobody", fn := fun _ => fun
  | [d] => { results := [.lit (.bool false)], args := [d] }
  | _ => none }
def NetNobodyWrongFalsely : Prop := netNobodyRow.holds Try.pinned (OpenSpec.ofChange netNobodyWrong)

/-- 'spandrellaw13.NetKeeps': WHATEVER THE INPUT: true; the input reads as it did. -/
def netKeepsSpec : ChangeSpec := { name := "netKeeps", fn := fun _ => fun
  | [d] => { results := [.lit (.bool true)], args := [d] }
  | _ => none }
def netKeepsRow : OpenClaim := { program := "ytfflcnlgkbgbhaa", sum := "1b0fbef3e420c9525350a5ce36a73afe1c14ce31deea4a012278254164a03462", func := "spandrel/spandrellaw13.NetKeeps", spec := "netKeeps", unfollowed := true, recurses := true, apart := false }
def NetKeepsSaid : Prop := netKeepsRow.holds Try.pinned (OpenSpec.ofChange netKeepsSpec)

/-- ITS FALSE NEIGHBOUR: 'it returns false'. Refute it at one input. -/
def netKeepsWrong : ChangeSpec := { name := "netKeeps", fn := fun _ => fun
  | [d] => { results := [.lit (.bool false)], args := [d] }
  | _ => none }
def NetKeepsWrongFalsely : Prop := netKeepsRow.holds Try.pinned (OpenSpec.ofChange netKeepsWrong)

/- THE SECOND FORM. 'bulk': how many values and letters a reading holds, each counted each time it is reached (what is shared counts as often as it is met; a slice's spare places count too). A statement '..UptoSaid' is the law's where the arguments, and the package variables that the reading takes, are together of bulk at most 1048576: NARROWER than '..Said'. Prove '..Said' where nothing that the law and all that it calls make is longer than what came in: it says more and counts as full. Else prove '..UptoSaid'. A law counts once. -/
mutual
def uptoBulk {H : Type} : DataW H → Nat
  | .lit (.string bytes) => bytes.length + 1
  | .lit _ => 1
  | .nil => 1
  | .ptr d => uptoBulk d + 1
  | .slice elems spare => uptoBulkAll elems + uptoBulkAll spare + 1
  | .agg parts => uptoBulkAll parts + 1
  | .iface _ d => uptoBulk d + 1
  | .map entries => uptoBulkEntries entries + 1
  | .held _ => 1
def uptoBulkAll {H : Type} : List (DataW H) → Nat
  | [] => 0
  | d :: r => uptoBulk d + uptoBulkAll r
def uptoBulkEntries {H : Type} : List (Lit × DataW H) → Nat
  | [] => 0
  | x :: r => uptoBulkEntry x + uptoBulkEntries r
def uptoBulkEntry {H : Type} : Lit × DataW H → Nat
  | (.string bytes, d) => bytes.length + uptoBulk d + 1
  | (_, d) => uptoBulk d + 1
 end
def uptoSmall : (H : Type) → List (DataW H) → Bool := fun _ ds => decide (uptoBulkAll ds ≤ 1048576)
def OpenSpec.upto (s : _root_.Go.ChangeSpec) : _root_.Go.OpenSpec := { _root_.Go.OpenSpec.ofChange s with cond := some uptoSmall }

/-- 'spandrellaw13.NetPuts', WHERE WHAT IT READS IS OF BULK AT MOST 1048576: true; the input reads as it did. -/
def netPutsUptoRow : OpenClaim := { program := "ytfflcnlgkbgbhaa", sum := "1b0fbef3e420c9525350a5ce36a73afe1c14ce31deea4a012278254164a03462", func := "spandrel/spandrellaw13.NetPuts", spec := "netPuts", unfollowed := true, recurses := true, apart := false, narrowed := true }
def NetPutsUptoSaid : Prop := netPutsUptoRow.holds Try.pinned (OpenSpec.upto netPutsSpec)

/-- 'spandrellaw13.NetGets', WHERE WHAT IT READS IS OF BULK AT MOST 1048576: true; the input reads as it did. -/
def netGetsUptoRow : OpenClaim := { program := "ytfflcnlgkbgbhaa", sum := "1b0fbef3e420c9525350a5ce36a73afe1c14ce31deea4a012278254164a03462", func := "spandrel/spandrellaw13.NetGets", spec := "netGets", unfollowed := true, recurses := true, apart := false, narrowed := true }
def NetGetsUptoSaid : Prop := netGetsUptoRow.holds Try.pinned (OpenSpec.upto netGetsSpec)

/-- 'spandrellaw13.NetBack', WHERE WHAT IT READS IS OF BULK AT MOST 1048576: true; the input reads as it did. -/
def netBackUptoRow : OpenClaim := { program := "ytfflcnlgkbgbhaa", sum := "1b0fbef3e420c9525350a5ce36a73afe1c14ce31deea4a012278254164a03462", func := "spandrel/spandrellaw13.NetBack", spec := "netBack", unfollowed := true, recurses := true, apart := false, narrowed := true }
def NetBackUptoSaid : Prop := netBackUptoRow.holds Try.pinned (OpenSpec.upto netBackSpec)

/-- 'spandrellaw13.NetTurned', WHERE WHAT IT READS IS OF BULK AT MOST 1048576: true; the input reads as it did. -/
def netTurnedUptoRow : OpenClaim := { program := "ytfflcnlgkbgbhaa", sum := "1b0fbef3e420c9525350a5ce36a73afe1c14ce31deea4a012278254164a03462", func := "spandrel/spandrellaw13.NetTurned", spec := "netTurned", unfollowed := true, recurses := true, apart := false, narrowed := true }
def NetTurnedUptoSaid : Prop := netTurnedUptoRow.holds Try.pinned (OpenSpec.upto netTurnedSpec)

/-- 'spandrellaw13.NetPlays', WHERE WHAT IT READS IS OF BULK AT MOST 1048576: true; the input reads as it did. -/
def netPlaysUptoRow : OpenClaim := { program := "ytfflcnlgkbgbhaa", sum := "1b0fbef3e420c9525350a5ce36a73afe1c14ce31deea4a012278254164a03462", func := "spandrel/spandrellaw13.NetPlays", spec := "netPlays", unfollowed := true, recurses := true, apart := false, narrowed := true }
def NetPlaysUptoSaid : Prop := netPlaysUptoRow.holds Try.pinned (OpenSpec.upto netPlaysSpec)

/-- 'spandrellaw13.NetNobody', WHERE WHAT IT READS IS OF BULK AT MOST 1048576: true; the input reads as it did. -/
def netNobodyUptoRow : OpenClaim := { program := "ytfflcnlgkbgbhaa", sum := "1b0fbef3e420c9525350a5ce36a73afe1c14ce31deea4a012278254164a03462", func := "spandrel/spandrellaw13.NetNobody", spec := "netNobody", unfollowed := true, recurses := true, apart := false, narrowed := true }
def NetNobodyUptoSaid : Prop := netNobodyUptoRow.holds Try.pinned (OpenSpec.upto netNobodySpec)

/-- 'spandrellaw13.NetKeeps', WHERE WHAT IT READS IS OF BULK AT MOST 1048576: true; the input reads as it did. -/
def netKeepsUptoRow : OpenClaim := { program := "ytfflcnlgkbgbhaa", sum := "1b0fbef3e420c9525350a5ce36a73afe1c14ce31deea4a012278254164a03462", func := "spandrel/spandrellaw13.NetKeeps", spec := "netKeeps", unfollowed := true, recurses := true, apart := false, narrowed := true }
def NetKeepsUptoSaid : Prop := netKeepsUptoRow.holds Try.pinned (OpenSpec.upto netKeepsSpec)

end Rows
end Go.Proofs.Ytfflcnlgkbgbhaa
