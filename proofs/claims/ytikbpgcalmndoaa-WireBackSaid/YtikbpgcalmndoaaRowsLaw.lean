/-
  Records one behind the other: plain laws.
-/
import Derived.Test.YtikbpgcalmndoaaRowsSpec
set_option linter.unusedVariables false
set_option linter.unusedSimpArgs false
namespace Go.Proofs.Ytikbpgcalmndoaa

/-- Records, one behind the other. -/
def recs (l : List (List UInt8)) : List UInt8 := (l.map rcd).flatten
theorem recs_nil : recs [] = [] := rfl
theorem recs_cons (p : List UInt8) (l : List (List UInt8)) : recs (p :: l) = rcd p ++ recs l := rfl
theorem recs_snoc (l : List (List UInt8)) (p : List UInt8) : recs (l ++ [p]) = recs l ++ rcd p := by simp [recs]
theorem rows_recs (l : List (List UInt8)) (t : List UInt8) (h : ∀ p ∈ l, p.length ≤ 65536) (ht : (pick t).2.2 ≠ 0) : rows (recs l ++ t) = (l, (recs l).length) := by
  induction l with
  | nil => rw [recs_nil, List.nil_append, rows_not _ ht]; rfl
  | cons p l ih =>
    have h1 := pick_rcd p (recs l ++ t) (h p (by simp))
    rw [recs_cons, List.append_assoc, rows_ok _ (by rw [h1]), h1]
    simp only [List.drop_left]
    rw [ih fun q hq => h q (by simp [hq])]
    simp
theorem pick_none : (pick []).2.2 = 2 := by simp [pick]
theorem rows_one (p : List UInt8) (h : p.length ≤ 65536) : rows (rcd p) = ([p], (rcd p).length) := by
  have := rows_recs [p] [] (by simpa using h) (by rw [pick_none]; decide)
  simpa [recs] using this
theorem digs_under (n : Nat) (h : n < 128) : (digs n).length = 1 := by
  unfold digs
  rw [show n / 128 = 0 by omega, hi_zero]; rfl
theorem rows_a : rows (rcd [97]) = ([[97]], 7) := by
  rw [rows_one _ (by decide), rcd_len]
  show ([[97]], 1 + (digs 1).length + 1 + 4) = _
  rw [digs_under 1 (by omega)]
end Go.Proofs.Ytikbpgcalmndoaa
