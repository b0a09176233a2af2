/-
  The document's answers for numbers as bytes: plain Lean, no program.
-/
import Derived.Test.YtikbpgcalmndoaaKit
set_option linter.unusedVariables false
set_option linter.unusedSimpArgs false
namespace Go.Proofs.Ytikbpgcalmndoaa

/-- A number's higher groups, each with the mark that more follow. -/
def hi (n : Nat) : List UInt8 := if h : n = 0 then [] else hi (n / 128) ++ [byt (128 + n % 128)]
termination_by n
decreasing_by omega
/-- A number's bytes. -/
def digs (n : Nat) : List UInt8 := hi (n / 128) ++ [byt (n % 128)]
theorem hi_zero : hi 0 = [] := by rw [hi]; simp
theorem hi_pos (n : Nat) (h : 0 < n) : hi n = hi (n / 128) ++ [byt (128 + n % 128)] := by rw [hi]; rw [dif_neg (by omega)]
theorem hi_len (j : Nat) : ∀ n, n < 128 ^ j → (hi n).length ≤ j := by
  induction j with
  | zero => intro n h; have : n = 0 := by simpa using h
            subst this; simp [hi_zero]
  | succ j ih =>
    intro n h
    rcases Nat.eq_zero_or_pos n with h0 | h0
    · subst h0; simp [hi_zero]
    · rw [hi_pos n h0, List.length_append, List.length_singleton]
      have := ih (n / 128) (Nat.div_lt_of_lt_mul (by rw [Nat.pow_succ] at h; omega))
      omega
theorem digs_len (n : Nat) (h : n ≤ 9223372036854775807) : 1 ≤ (digs n).length ∧ (digs n).length ≤ 9 := by
  unfold digs
  rw [List.length_append, List.length_singleton]
  have := hi_len 8 (n / 128) (by omega)
  omega
end Go.Proofs.Ytikbpgcalmndoaa
