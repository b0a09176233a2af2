/-
  The payloads of all records with which bytes begin: plain Lean.
-/
import Derived.Test.YtikbpgcalmndoaaLawRec
set_option linter.unusedVariables false
set_option linter.unusedSimpArgs false
namespace Go.Proofs.Ytikbpgcalmndoaa

theorem pick_ok (b : List UInt8) (h : (pick b).2.2 = 0) : 6 ≤ (pick b).2.1 ∧ (pick b).2.1 ≤ b.length ∧ (pick b).1.length + 6 ≤ (pick b).2.1 ∧ (pick b).1.length ≤ 65536 ∧ rcd (pick b).1 = b.take (pick b).2.1 := by
  unfold pick at h ⊢
  split at h
  · simp at h
  rename_i h1
  split at h
  · simp at h
  rename_i h2
  split at h
  · rename_i h3; exact absurd h h3
  rename_i h3
  split at h
  · simp at h
  rename_i h4
  split at h
  · simp at h
  rename_i h5
  split at h
  · simp at h
  rename_i h6
  rw [if_neg h1, if_neg h2, if_neg h3, if_neg h4, if_neg h5, if_neg h6]
  have h3' := Classical.not_not.1 h3
  have hf := rd_form (b.drop 1) h3'
  have hfl := rd_form_len (b.drop 1) h3'
  have hd : 0 < (digs (rd (b.drop 1)).1).length := by unfold digs; simp
  have hb := Classical.not_not.1 h2
  have hs := Classical.not_not.1 h6
  generalize rd (b.drop 1) = r at *
  obtain ⟨n, k, e⟩ := r
  simp only at *
  have hm : ((b.drop (1 + k)).take n).length = n := by rw [List.length_take, List.length_drop]; omega
  have hbody : b.take (1 + k + n) = body ((b.drop (1 + k)).take n) := by
    unfold body
    rw [hm, ← hf]
    match b, hb with
    | x :: l, hb =>
      simp only [List.getElem?_cons_zero, Option.some.injEq] at hb
      subst hb
      rw [show 1 + k + n = (k + n) + 1 by omega, List.take_succ_cons, List.drop_succ_cons, List.drop_zero, show 1 + k = k + 1 by omega, List.drop_succ_cons, ← List.take_add]
  have hsplit : b.take (1 + k + n + 4) = b.take (1 + k + n) ++ (b.drop (1 + k + n)).take 4 := List.take_add
  refine ⟨by omega, by omega, by rw [hm]; omega, by rw [hm]; omega, ?_⟩
  rw [hsplit, hs, hbody]; rfl

def rows (b : List UInt8) : List (List UInt8) × Nat :=
  if h : (pick b).2.2 = 0 then ((pick b).1 :: (rows (b.drop (pick b).2.1)).1, (pick b).2.1 + (rows (b.drop (pick b).2.1)).2) else ([], 0)
termination_by b.length
decreasing_by
  all_goals
    have := pick_ok b h
    rw [List.length_drop]
    omega
theorem rows_ok (b : List UInt8) (h : (pick b).2.2 = 0) : rows b = ((pick b).1 :: (rows (b.drop (pick b).2.1)).1, (pick b).2.1 + (rows (b.drop (pick b).2.1)).2) := by rw [rows, dif_pos h]
theorem rows_not (b : List UInt8) (h : (pick b).2.2 ≠ 0) : rows b = ([], 0) := by rw [rows, dif_neg h]
theorem rows_step (b : List UInt8) (k : Nat) (acc : List (List UInt8)) (h : (pick (b.drop k)).2.2 = 0) (h1 : acc ++ (rows (b.drop k)).1 = (rows b).1) (h2 : k + (rows (b.drop k)).2 = (rows b).2) :
    (acc ++ [(pick (b.drop k)).1]) ++ (rows (b.drop (k + (pick (b.drop k)).2.1))).1 = (rows b).1 ∧ (k + (pick (b.drop k)).2.1) + (rows (b.drop (k + (pick (b.drop k)).2.1))).2 = (rows b).2 := by
  rw [rows_ok _ h] at h1 h2
  rw [List.drop_drop] at h1 h2
  constructor
  · rw [← h1]; simp
  · rw [← h2]; omega
theorem rows_end (b : List UInt8) (k : Nat) (acc : List (List UInt8)) (h : (pick (b.drop k)).2.2 ≠ 0) (h1 : acc ++ (rows (b.drop k)).1 = (rows b).1) (h2 : k + (rows (b.drop k)).2 = (rows b).2) :
    (rows b).1 = acc ∧ (rows b).2 = k := by
  rw [rows_not _ h] at h1 h2
  constructor
  · rw [← h1]; simp
  · rw [← h2]; simp
end Go.Proofs.Ytikbpgcalmndoaa
