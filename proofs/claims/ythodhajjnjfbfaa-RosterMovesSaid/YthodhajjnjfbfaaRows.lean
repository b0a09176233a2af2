/-
  No cell of these rows narrows 'for every input' (looked for: loops, veiled, ifaces, maps, wideKeys, modest, calm, conditions, laid).
  DERIVED. THE GIVEN ROWS OF THIS SEAT. 8 by the template 'for every input the law returns true; each argument reads behind the call as it read before'; 0 by the template 'total and deterministic' (their statements: YthodhajjnjfbfaaTotals.lean).
  GIVEN WITH THE SEED: the statements are not yours to turn. If you find one false, say at which input.
  Laid BY PROGRAM, IN A SANDBOX (cutbox-rows.mjs): the forced cells as the released guide's own fill.sh prints them over the translation 62344f77028bab3a… (all of the seat's roots in one cut). By AI agents, Wed Nov 11 2026. No macro, syntax, notation, axiom, sorry.
-/
import Derived.Test.YthodhajjnjfbfaaChecked
import GoSem.Claim
import GoSem.ClaimJoined
import GoSem.ClaimMapViews
import Derived.JoinedTies
import Derived.KernelRfl
namespace Go.Proofs.Ythodhajjnjfbfaa
/- THE CELL 'sum', in the pinned program and in every row, IS THE sha256 OF THE DUMP (.gsa) THAT YthodhajjnjfbfaaProg.lean LOADS. Nothing in Lean hashes anything: it is a label: what it is worth is what the hold of that sum in a sandbox is worth. -/
noncomputable def Try.pinned : Pinned := { name := "ythodhajjnjfbfaa", sum := "62344f77028bab3a99c2e2bcdabfd5eccd3494ed863ce5ff402bd15a8b502aa5", checked := Try.checked }
namespace Rows
def none {H : Type} : Left H := { results := [], args := [] }

/-- 'spandrellaw10.RosterMajorities': WHATEVER THE INPUT: true; the input reads as it did. -/
def rosterMajoritiesSpec : ChangeSpec := { name := "rosterMajorities", fn := fun _ => fun
  | [d1, d2] => { results := [.lit (.bool true)], args := [d1, d2] }
  | _ => none }
def rosterMajoritiesRow : OpenClaim := { program := "ythodhajjnjfbfaa", sum := "62344f77028bab3a99c2e2bcdabfd5eccd3494ed863ce5ff402bd15a8b502aa5", func := "spandrel/spandrellaw10.RosterMajorities", spec := "rosterMajorities", recurses := true, apart := false }
def RosterMajoritiesSaid : Prop := rosterMajoritiesRow.holds Try.pinned (OpenSpec.ofChange rosterMajoritiesSpec)

/-- ITS FALSE NEIGHBOUR: 'it returns false'. Refute it at one input. -/
def rosterMajoritiesWrong : ChangeSpec := { name := "rosterMajorities", fn := fun _ => fun
  | [d1, d2] => { results := [.lit (.bool false)], args := [d1, d2] }
  | _ => none }
def RosterMajoritiesWrongFalsely : Prop := rosterMajoritiesRow.holds Try.pinned (OpenSpec.ofChange rosterMajoritiesWrong)

/-- 'spandrellaw10.RosterChanges': WHATEVER THE INPUT: true; the input reads as it did. -/
def rosterChangesSpec : ChangeSpec := { name := "rosterChanges", fn := fun _ => fun
  | [d1, d2] => { results := [.lit (.bool true)], args := [d1, d2] }
  | _ => none }
def rosterChangesRow : OpenClaim := { program := "ythodhajjnjfbfaa", sum := "62344f77028bab3a99c2e2bcdabfd5eccd3494ed863ce5ff402bd15a8b502aa5", func := "spandrel/spandrellaw10.RosterChanges", spec := "rosterChanges", recurses := true, apart := false }
def RosterChangesSaid : Prop := rosterChangesRow.holds Try.pinned (OpenSpec.ofChange rosterChangesSpec)

/-- ITS FALSE NEIGHBOUR: 'it returns false'. Refute it at one input. -/
def rosterChangesWrong : ChangeSpec := { name := "rosterChanges", fn := fun _ => fun
  | [d1, d2] => { results := [.lit (.bool false)], args := [d1, d2] }
  | _ => none }
def RosterChangesWrongFalsely : Prop := rosterChangesRow.holds Try.pinned (OpenSpec.ofChange rosterChangesWrong)

/-- 'spandrellaw10.RosterReached': WHATEVER THE INPUT: true; the input reads as it did. -/
def rosterReachedSpec : ChangeSpec := { name := "rosterReached", fn := fun _ => fun
  | [d1, d2, d3, d4] => { results := [.lit (.bool true)], args := [d1, d2, d3, d4] }
  | _ => none }
def rosterReachedRow : OpenClaim := { program := "ythodhajjnjfbfaa", sum := "62344f77028bab3a99c2e2bcdabfd5eccd3494ed863ce5ff402bd15a8b502aa5", func := "spandrel/spandrellaw10.RosterReached", spec := "rosterReached", recurses := true, apart := false }
def RosterReachedSaid : Prop := rosterReachedRow.holds Try.pinned (OpenSpec.ofChange rosterReachedSpec)

/-- ITS FALSE NEIGHBOUR: 'it returns false'. Refute it at one input. -/
def rosterReachedWrong : ChangeSpec := { name := "rosterReached", fn := fun _ => fun
  | [d1, d2, d3, d4] => { results := [.lit (.bool false)], args := [d1, d2, d3, d4] }
  | _ => none }
def RosterReachedWrongFalsely : Prop := rosterReachedRow.holds Try.pinned (OpenSpec.ofChange rosterReachedWrong)

/-- 'spandrellaw10.RosterAgreed': WHATEVER THE INPUT: true; the input reads as it did. -/
def rosterAgreedSpec : ChangeSpec := { name := "rosterAgreed", fn := fun _ => fun
  | [d1, d2] => { results := [.lit (.bool true)], args := [d1, d2] }
  | _ => none }
def rosterAgreedRow : OpenClaim := { program := "ythodhajjnjfbfaa", sum := "62344f77028bab3a99c2e2bcdabfd5eccd3494ed863ce5ff402bd15a8b502aa5", func := "spandrel/spandrellaw10.RosterAgreed", spec := "rosterAgreed", recurses := true, apart := false }
def RosterAgreedSaid : Prop := rosterAgreedRow.holds Try.pinned (OpenSpec.ofChange rosterAgreedSpec)

/-- ITS FALSE NEIGHBOUR: 'it returns false'. Refute it at one input. -/
def rosterAgreedWrong : ChangeSpec := { name := "rosterAgreed", fn := fun _ => fun
  | [d1, d2] => { results := [.lit (.bool false)], args := [d1, d2] }
  | _ => none }
def RosterAgreedWrongFalsely : Prop := rosterAgreedRow.holds Try.pinned (OpenSpec.ofChange rosterAgreedWrong)

/-- 'spandrellaw10.RosterChecks': WHATEVER THE INPUT: true; the input reads as it did. -/
def rosterChecksSpec : ChangeSpec := { name := "rosterChecks", fn := fun _ => fun
  | [d1, d2] => { results := [.lit (.bool true)], args := [d1, d2] }
  | _ => none }
def rosterChecksRow : OpenClaim := { program := "ythodhajjnjfbfaa", sum := "62344f77028bab3a99c2e2bcdabfd5eccd3494ed863ce5ff402bd15a8b502aa5", func := "spandrel/spandrellaw10.RosterChecks", spec := "rosterChecks", recurses := true, apart := false }
def RosterChecksSaid : Prop := rosterChecksRow.holds Try.pinned (OpenSpec.ofChange rosterChecksSpec)

/-- ITS FALSE NEIGHBOUR: 'it returns false'. Refute it at one input. -/
def rosterChecksWrong : ChangeSpec := { name := "rosterChecks", fn := fun _ => fun
  | [d1, d2] => { results := [.lit (.bool false)], args := [d1, d2] }
  | _ => none }
def RosterChecksWrongFalsely : Prop := rosterChecksRow.holds Try.pinned (OpenSpec.ofChange rosterChecksWrong)

/-- 'spandrellaw10.RosterMeets': WHATEVER THE INPUT: true; the input reads as it did. -/
def rosterMeetsSpec : ChangeSpec := { name := "rosterMeets", fn := fun _ => fun
  | [d1, d2, d3, d4] => { results := [.lit (.bool true)], args := [d1, d2, d3, d4] }
  | _ => none }
def rosterMeetsRow : OpenClaim := { program := "ythodhajjnjfbfaa", sum := "62344f77028bab3a99c2e2bcdabfd5eccd3494ed863ce5ff402bd15a8b502aa5", func := "spandrel/spandrellaw10.RosterMeets", spec := "rosterMeets", unfollowed := true, recurses := true, apart := false }
def RosterMeetsSaid : Prop := rosterMeetsRow.holds Try.pinned (OpenSpec.ofChange rosterMeetsSpec)

/-- ITS FALSE NEIGHBOUR: 'it returns false'. Refute it at one input. -/
def rosterMeetsWrong : ChangeSpec := { name := "rosterMeets", fn := fun _ => fun
  | [d1, d2, d3, d4] => { results := [.lit (.bool false)], args := [d1, d2, d3, d4] }
  | _ => none }
def RosterMeetsWrongFalsely : Prop := rosterMeetsRow.holds Try.pinned (OpenSpec.ofChange rosterMeetsWrong)

/-- 'spandrellaw10.RosterMoves': WHATEVER THE INPUT: true; the input reads as it did. -/
def rosterMovesSpec : ChangeSpec := { name := "rosterMoves", fn := fun _ => fun
  | [d1, d2] => { results := [.lit (.bool true)], args := [d1, d2] }
  | _ => none }
def rosterMovesRow : OpenClaim := { program := "ythodhajjnjfbfaa", sum := "62344f77028bab3a99c2e2bcdabfd5eccd3494ed863ce5ff402bd15a8b502aa5", func := "spandrel/spandrellaw10.RosterMoves", spec := "rosterMoves", unfollowed := true, recurses := true, apart := false }
def RosterMovesSaid : Prop := rosterMovesRow.holds Try.pinned (OpenSpec.ofChange rosterMovesSpec)

/-- ITS FALSE NEIGHBOUR: 'it returns false'. Refute it at one input. -/
def rosterMovesWrong : ChangeSpec := { name := "rosterMoves", fn := fun _ => fun
  | [d1, d2] => { results := [.lit (.bool false)], args := [d1, d2] }
  | _ => none }
def RosterMovesWrongFalsely : Prop := rosterMovesRow.holds Try.pinned (OpenSpec.ofChange rosterMovesWrong)

/-- 'spandrellaw10.RosterBack': WHATEVER THE INPUT: true; the input reads as it did. -/
def rosterBackSpec : ChangeSpec := { name := "rosterBack", fn := fun _ => fun
  | [d1, d2] => { results := [.lit (.bool true)], args := [d1, d2] }
  | _ => none }
def rosterBackRow : OpenClaim := { program := "ythodhajjnjfbfaa", sum := "62344f77028bab3a99c2e2bcdabfd5eccd3494ed863ce5ff402bd15a8b502aa5", func := "spandrel/spandrellaw10.RosterBack", spec := "rosterBack", unfollowed := true, recurses := true, apart := false }
def RosterBackSaid : Prop := rosterBackRow.holds Try.pinned (OpenSpec.ofChange rosterBackSpec)

/-- ITS FALSE NEIGHBOUR: 'it returns false'. Refute it at one input. -/
def rosterBackWrong : ChangeSpec := { name := "rosterBack", fn := fun _ => fun
  | [d1, d2] => { results := [.lit (.bool false)], args := [d1, d2] }
  | _ => none }
def RosterBackWrongFalsely : Prop := rosterBackRow.holds Try.pinned (OpenSpec.ofChange rosterBackWrong)

/- THE SECOND FORM. 'bulk': how many values and letters a reading holds, each counted each time it is reached (what is shared counts as often as it is met; a slice's spare places count too). A statement '..UptoSaid' is the law's where the arguments, and the package variables that the reading takes, are together of bulk at most 1048576: NARROWER than '..Said'. Prove '..Said' where nothing that the law and all that it calls make is longer than what came in: it says more and counts as full. Else prove '..UptoSaid'. A law counts once. -/
mutual
def uptoBulk {H : Type} : DataW H → Nat
  | .lit (.string bytes) => bytes.length + 1
  | .lit _ => 1
  | .nil => 1
  | .ptr d => uptoBulk d + 1
  | .slice elems spare => uptoBulkAll elems + uptoBulkAll spare + 1
  | .agg parts => uptoBulkAll parts + 1
  | .iface _ d => uptoBulk d + 1
  | .map entries => uptoBulkEntries entries + 1
  | .held _ => 1
def uptoBulkAll {H : Type} : List (DataW H) → Nat
  | [] => 0
  | d :: r => uptoBulk d + uptoBulkAll r
def uptoBulkEntries {H : Type} : List (Lit × DataW H) → Nat
  | [] => 0
  | x :: r => uptoBulkEntry x + uptoBulkEntries r
def uptoBulkEntry {H : Type} : Lit × DataW H → Nat
  | (.string bytes, d) => bytes.length + uptoBulk d + 1
  | (_, d) => uptoBulk d + 1
 end
def uptoSmall : (H : Type) → List (DataW H) → Bool := fun _ ds => decide (uptoBulkAll ds ≤ 1048576)
def OpenSpec.upto (s : _root_.Go.ChangeSpec) : _root_.Go.OpenSpec := { _root_.Go.OpenSpec.ofChange s with cond := some uptoSmall }

/-- 'spandrellaw10.RosterMajorities', WHERE WHAT IT READS IS OF BULK AT MOST 1048576: true; the input reads as it did. -/
def rosterMajoritiesUptoRow : OpenClaim := { program := "ythodhajjnjfbfaa", sum := "62344f77028bab3a99c2e2bcdabfd5eccd3494ed863ce5ff402bd15a8b502aa5", func := "spandrel/spandrellaw10.RosterMajorities", spec := "rosterMajorities", recurses := true, apart := false, narrowed := true }
def RosterMajoritiesUptoSaid : Prop := rosterMajoritiesUptoRow.holds Try.pinned (OpenSpec.upto rosterMajoritiesSpec)

/-- 'spandrellaw10.RosterChanges', WHERE WHAT IT READS IS OF BULK AT MOST 1048576: true; the input reads as it did. -/
def rosterChangesUptoRow : OpenClaim := { program := "ythodhajjnjfbfaa", sum := "62344f77028bab3a99c2e2bcdabfd5eccd3494ed863ce5ff402bd15a8b502aa5", func := "spandrel/spandrellaw10.RosterChanges", spec := "rosterChanges", recurses := true, apart := false, narrowed := true }
def RosterChangesUptoSaid : Prop := rosterChangesUptoRow.holds Try.pinned (OpenSpec.upto rosterChangesSpec)

/-- 'spandrellaw10.RosterReached', WHERE WHAT IT READS IS OF BULK AT MOST 1048576: true; the input reads as it did. -/
def rosterReachedUptoRow : OpenClaim := { program := "ythodhajjnjfbfaa", sum := "62344f77028bab3a99c2e2bcdabfd5eccd3494ed863ce5ff402bd15a8b502aa5", func := "spandrel/spandrellaw10.RosterReached", spec := "rosterReached", recurses := true, apart := false, narrowed := true }
def RosterReachedUptoSaid : Prop := rosterReachedUptoRow.holds Try.pinned (OpenSpec.upto rosterReachedSpec)

/-- 'spandrellaw10.RosterAgreed', WHERE WHAT IT READS IS OF BULK AT MOST 1048576: true; the input reads as it did. -/
def rosterAgreedUptoRow : OpenClaim := { program := "ythodhajjnjfbfaa", sum := "62344f77028bab3a99c2e2bcdabfd5eccd3494ed863ce5ff402bd15a8b502aa5", func := "spandrel/spandrellaw10.RosterAgreed", spec := "rosterAgreed", recurses := true, apart := false, narrowed := true }
def RosterAgreedUptoSaid : Prop := rosterAgreedUptoRow.holds Try.pinned (OpenSpec.upto rosterAgreedSpec)

/-- 'spandrellaw10.RosterChecks', WHERE WHAT IT READS IS OF BULK AT MOST 1048576: true; the input reads as it did. -/
def rosterChecksUptoRow : OpenClaim := { program := "ythodhajjnjfbfaa", sum := "62344f77028bab3a99c2e2bcdabfd5eccd3494ed863ce5ff402bd15a8b502aa5", func := "spandrel/spandrellaw10.RosterChecks", spec := "rosterChecks", recurses := true, apart := false, narrowed := true }
def RosterChecksUptoSaid : Prop := rosterChecksUptoRow.holds Try.pinned (OpenSpec.upto rosterChecksSpec)

/-- 'spandrellaw10.RosterMeets', WHERE WHAT IT READS IS OF BULK AT MOST 1048576: true; the input reads as it did. -/
def rosterMeetsUptoRow : OpenClaim := { program := "ythodhajjnjfbfaa", sum := "62344f77028bab3a99c2e2bcdabfd5eccd3494ed863ce5ff402bd15a8b502aa5", func := "spandrel/spandrellaw10.RosterMeets", spec := "rosterMeets", unfollowed := true, recurses := true, apart := false, narrowed := true }
def RosterMeetsUptoSaid : Prop := rosterMeetsUptoRow.holds Try.pinned (OpenSpec.upto rosterMeetsSpec)

/-- 'spandrellaw10.RosterMoves', WHERE WHAT IT READS IS OF BULK AT MOST 1048576: true; the input reads as it did. -/
def rosterMovesUptoRow : OpenClaim := { program := "ythodhajjnjfbfaa", sum := "62344f77028bab3a99c2e2bcdabfd5eccd3494ed863ce5ff402bd15a8b502aa5", func := "spandrel/spandrellaw10.RosterMoves", spec := "rosterMoves", unfollowed := true, recurses := true, apart := false, narrowed := true }
def RosterMovesUptoSaid : Prop := rosterMovesUptoRow.holds Try.pinned (OpenSpec.upto rosterMovesSpec)

/-- 'spandrellaw10.RosterBack', WHERE WHAT IT READS IS OF BULK AT MOST 1048576: true; the input reads as it did. -/
def rosterBackUptoRow : OpenClaim := { program := "ythodhajjnjfbfaa", sum := "62344f77028bab3a99c2e2bcdabfd5eccd3494ed863ce5ff402bd15a8b502aa5", func := "spandrel/spandrellaw10.RosterBack", spec := "rosterBack", unfollowed := true, recurses := true, apart := false, narrowed := true }
def RosterBackUptoSaid : Prop := rosterBackUptoRow.holds Try.pinned (OpenSpec.upto rosterBackSpec)

end Rows
end Go.Proofs.Ythodhajjnjfbfaa
