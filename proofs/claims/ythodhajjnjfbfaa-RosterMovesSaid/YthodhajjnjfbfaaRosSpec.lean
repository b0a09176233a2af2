/-
  The document's answers for voters: plain Lean, no program.
-/
import Derived.Test.YthodhajjnjfbfaaInts
set_option linter.unusedVariables false
set_option linter.unusedSimpArgs false
namespace Go.Proofs.Ythodhajjnjfbfaa

/-- Do numbers rise, from behind one on, up to 6? -/
def risF : Int → List Int → Bool
  | _, [] => true
  | a, x :: l => decide (a < x) && decide (x ≤ 6) && risF x l
/-- May these be voters? -/
def chk (l : List Int) : Bool := risF (-1) l && !l.isEmpty
/-- The number that stands ahead of a place. -/
def prv (l : List Int) : Nat → Int
  | 0 => -1
  | k + 1 => l.getD k 0
theorem risF_cons (a x : Int) (l : List Int) : risF a (x :: l) = (decide (a < x) && decide (x ≤ 6) && risF x l) := rfl
theorem prv_succ (l : List Int) (k : Nat) (hk : k < l.length) : prv l (k + 1) = l[k] := by
  simp [prv, List.getD, hk]
theorem chk_nil : chk [] = false := rfl
theorem chk_pos (l : List Int) (h : 0 < l.length) : chk l = risF (-1) l := by
  cases l with
  | nil => simp at h
  | cons x l => simp [chk]
end Go.Proofs.Ythodhajjnjfbfaa
