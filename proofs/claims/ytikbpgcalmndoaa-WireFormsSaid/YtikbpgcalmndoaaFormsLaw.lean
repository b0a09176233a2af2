/-
  What is read is what would be put: plain laws.
-/
import Derived.Test.YtikbpgcalmndoaaRowsSpec
set_option linter.unusedVariables false
set_option linter.unusedSimpArgs false
namespace Go.Proofs.Ytikbpgcalmndoaa

theorem forms_number (b : List UInt8) : ∃ n k e, ScS.number ⟨b, 0, 0⟩ = (n, ⟨b, k, e⟩) ∧ k ≤ b.length ∧ n < 9223372036854775808 ∧ e ≤ 10 ∧ (e = 0 → digs n = b.take k) ∧ (e ≠ 0 → k = 0) := by
  have h := rd_bd b
  refine ⟨(rd b).1, (rd b).2.1, (rd b).2.2, by simp [ScS.number], h.2.1, h.1, h.2.2.2, fun he => (rd_form b he).symm, fun he => (h.2.2.1 he).2⟩
theorem forms_text (b : List UInt8) : ∃ t k e, ScS.text ⟨b, 0, 0⟩ (b.length : Int) = (t, ⟨b, k, e⟩) ∧ k ≤ b.length ∧ t.length ≤ b.length ∧ e ≤ 10 ∧ (e = 0 → digs t.length ++ t = b.take k) ∧ (e ≠ 0 → k = 0) := by
  have h := rd_bd b
  unfold ScS.text
  simp only [if_true, List.drop_zero, Nat.zero_add, Int.toNat_natCast]
  split
  · rename_i he
    split
    · exact ⟨_, _, _, rfl, by simp, by simp, by simp, by simp, by simp⟩
    · split
      · exact ⟨_, _, _, rfl, by simp, by simp, by simp, by simp, by simp⟩
      · rename_i h1 h2
        have hf := rd_form b he
        have hm : ((b.drop (rd b).2.1).take (rd b).1).length = (rd b).1 := by rw [List.length_take, List.length_drop]; omega
        refine ⟨_, _, _, rfl, by omega, by rw [hm]; omega, by simp, fun _ => ?_, by simp⟩
        rw [hm, ← hf, List.take_add]
  · rename_i he
    exact ⟨_, _, _, rfl, by simp, by simp, h.2.2.2, fun h0 => absurd h0 he, by simp⟩
theorem pick_bad (b : List UInt8) : (pick b).2.2 ≤ 11 ∧ ((pick b).2.2 = 0 ∨ ((pick b).1 = [] ∧ (pick b).2.1 = 0)) := by
  have h := (rd_bd (b.drop 1)).2.2.2
  unfold pick
  split
  · exact ⟨by show 2 ≤ 11; omega, .inr ⟨rfl, rfl⟩⟩
  split
  · exact ⟨by show 10 ≤ 11; omega, .inr ⟨rfl, rfl⟩⟩
  split
  · exact ⟨by show (rd (b.drop 1)).2.2 ≤ 11; omega, .inr ⟨rfl, rfl⟩⟩
  split
  · exact ⟨by show 4 ≤ 11; omega, .inr ⟨rfl, rfl⟩⟩
  split
  · exact ⟨by show 2 ≤ 11; omega, .inr ⟨rfl, rfl⟩⟩
  split
  · exact ⟨by show 11 ≤ 11; omega, .inr ⟨rfl, rfl⟩⟩
  · exact ⟨by show 0 ≤ 11; omega, .inl rfl⟩
theorem forms_pick (b : List UInt8) : ∃ p k e, pick b = (p, k, e) ∧ e ≤ 11 ∧ p.length ≤ 65536 ∧ (e = 0 → k ≤ b.length ∧ rcd p = b.take k) ∧ (e ≠ 0 → p = [] ∧ k = 0) := by
  have hl := (pick_len b).1
  have hb := pick_bad b
  exact ⟨(pick b).1, (pick b).2.1, (pick b).2.2, rfl, hb.1, hl, fun he => ⟨(pick_ok b he).2.1, (pick_ok b he).2.2.2.2⟩, fun he => hb.2.resolve_left he⟩
end Go.Proofs.Ytikbpgcalmndoaa
