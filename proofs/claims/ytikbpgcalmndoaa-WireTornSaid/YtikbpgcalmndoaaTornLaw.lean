/-
  Records of which the last one is cut off: plain laws.
-/
import Derived.Test.YtikbpgcalmndoaaRowsLaw
set_option linter.unusedVariables false
set_option linter.unusedSimpArgs false
namespace Go.Proofs.Ytikbpgcalmndoaa

theorem hi_take (j : Nat) : ∀ (m i : Nat), m < 128 ^ j → i ≤ (hi m).length → ∃ m', m' ≤ m ∧ (hi m).take i = hi m' := by
  induction j with
  | zero =>
    intro m i h hi'
    exact ⟨m, Nat.le_refl _, by have : m = 0 := by simpa using h
                                subst this; rw [hi_zero]; simp⟩
  | succ j ih =>
    intro m i h hi'
    rcases Nat.lt_or_ge i (hi m).length with h1 | h1
    · rcases Nat.eq_zero_or_pos m with h0 | h0
      · subst h0; rw [hi_zero] at h1; simp at h1
      have hq : m / 128 < 128 ^ j := Nat.div_lt_of_lt_mul (by rw [Nat.pow_succ] at h; omega)
      rw [hi_pos m h0, List.length_append, List.length_singleton] at h1
      obtain ⟨m', h2, h3⟩ := ih (m / 128) i hq (by omega)
      exact ⟨m', by omega, by rw [hi_pos m h0, List.take_append_of_le_length (by omega)]; exact h3⟩
    · exact ⟨m, Nat.le_refl _, List.take_of_length_le h1⟩
/-- Of a number's bytes a beginning is too short. -/
theorem rd_short (n i : Nat) (h : n < 9223372036854775808) (hi' : i < (digs n).length) : rd ((digs n).take i) = (0, 0, 2) := by
  have h9 : n / 128 < 128 ^ 8 := by
    have : (128 : Nat) ^ 8 = 72057594037927936 := by decide
    omega
  unfold digs at hi' ⊢
  rw [List.length_append, List.length_singleton] at hi'
  rw [List.take_append_of_le_length (by omega)]
  obtain ⟨m', h1, h2⟩ := hi_take 8 _ i h9 (by omega)
  rw [h2]
  have := rdGo_hi 8 m' [] (by omega) (by omega)
  rw [List.append_nil] at this
  unfold rd
  rw [this]; rfl
/-- Of a record a beginning is too short. -/
theorem pick_short (p : List UInt8) (hp : p.length ≤ 65536) (j : Nat) (hj : j < (rcd p).length) : pick ((rcd p).take j) = ([], 0, 2) := by
  have hl := rcd_len p
  rcases Nat.eq_zero_or_pos j with h0 | h0
  · subst h0; simp [pick]
  have e1 : rcd p = byt 93 :: (digs p.length ++ (p ++ be4 (crc (body p)))) := by simp [rcd, body]
  obtain ⟨i, rfl⟩ : ∃ i, j = i + 1 := ⟨j - 1, by omega⟩
  have e2 : (rcd p).take (i + 1) = byt 93 :: (digs p.length ++ (p ++ be4 (crc (body p)))).take i := by rw [e1]; rfl
  have e3 : ((rcd p).take (i + 1)).drop 1 = (digs p.length ++ (p ++ be4 (crc (body p)))).take i := by rw [e2]; rfl
  have hlen : ((rcd p).take (i + 1)).length = i + 1 := by rw [List.length_take]; omega
  have e4 : ((rcd p).take (i + 1))[0]? = some (byt 93) := by rw [e2]; rfl
  unfold pick
  rw [hlen, e4, e3, if_neg (by omega), if_neg (by simp)]
  rcases Nat.lt_or_ge i (digs p.length).length with h1 | h1
  · rw [List.take_append_of_le_length (by omega), rd_short _ _ (by omega) h1]
    simp
  · have e5 : (digs p.length ++ (p ++ be4 (crc (body p)))).take i = digs p.length ++ (p ++ be4 (crc (body p))).take (i - (digs p.length).length) := by
      rw [List.take_append, List.take_of_length_le h1]
    rw [e5, rd_digs _ _ (by omega)]
    simp only
    rw [if_neg (by simp), if_neg (by omega), if_pos (by omega)]

/-- Where the records end. -/
def endOf (l : List (List UInt8)) (n : Nat) : Nat := (recs (l.take n)).length
theorem endOf_zero (l : List (List UInt8)) : endOf l 0 = 0 := rfl
theorem take_snoc {α : Type} (l : List α) (n : Nat) (h : n < l.length) : l.take (n + 1) = l.take n ++ [l[n]] := by
  rw [List.take_add_one, List.getElem?_eq_getElem h]; rfl
theorem endOf_succ (l : List (List UInt8)) (n : Nat) (h : n < l.length) : endOf l (n + 1) = endOf l n + (rcd l[n]).length := by
  unfold endOf
  rw [take_snoc l n h, recs_snoc, List.length_append]
theorem recs_take (l : List (List UInt8)) (n : Nat) (h : n < l.length) : recs (l.take (n + 1)) = recs (l.take n) ++ rcd l[n] := by rw [take_snoc l n h, recs_snoc]
theorem recs_append (l m : List (List UInt8)) : recs (l ++ m) = recs l ++ recs m := by simp [recs]
theorem recs_split (l : List (List UInt8)) (n : Nat) : recs l = recs (l.take n) ++ recs (l.drop n) := by
  rw [← recs_append, List.take_append_drop]
theorem endOf_le (l : List (List UInt8)) (n : Nat) : endOf l n ≤ (recs l).length := by
  unfold endOf; rw [recs_split l n, List.length_append]; omega
/-- What is found of records, the last one cut off. -/
theorem torn (l : List (List UInt8)) (h : ∀ p ∈ l, p.length ≤ 65536) (n k : Nat) (hn : n ≤ l.length) (hk : k ≤ (recs l).length) (h1 : endOf l n ≤ k) (h2 : n < l.length → k < endOf l (n + 1)) :
    rows ((recs l).take k) = (l.take n, endOf l n) ∧ (pick (((recs l).drop (endOf l n)).take (k - endOf l n))).2.2 = 2 := by
  have hs := recs_split l n
  have hpk : (pick (((recs l).drop (endOf l n)).take (k - endOf l n))).2.2 = 2 := by
    rw [hs]
    unfold endOf
    rw [List.drop_left]
    rcases Nat.lt_or_ge n l.length with h3 | h3
    · have h4 := h2 h3
      rw [endOf_succ l n h3] at h4
      have e : recs (l.drop n) = rcd l[n] ++ recs (l.drop (n + 1)) := by rw [List.drop_eq_getElem_cons h3, recs_cons]
      unfold endOf at h4 h1
      rw [e, List.take_append_of_le_length (by omega), pick_short _ (h _ (List.getElem_mem h3)) _ (by omega)]
    · rw [List.drop_of_length_le h3, recs_nil, List.take_nil]; exact pick_none
  refine ⟨?_, hpk⟩
  have e : (recs l).take k = recs (l.take n) ++ ((recs l).drop (endOf l n)).take (k - endOf l n) := by
    conv => lhs; rw [hs]
    rw [List.take_append, List.take_of_length_le (by exact h1)]
    congr 1
    conv => rhs; rw [hs]
    unfold endOf
    rw [List.drop_left]
  rw [e, rows_recs _ _ (fun p hp => h p (List.mem_of_mem_take hp)) (by rw [hpk]; decide)]
  rfl
end Go.Proofs.Ytikbpgcalmndoaa
