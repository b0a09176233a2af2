/-
  The document's answers for a scan: plain Lean, no program.
-/
import Derived.Test.YtikbpgcalmndoaaWireSpec
set_option linter.unusedVariables false
set_option linter.unusedSimpArgs false
namespace Go.Proofs.Ytikbpgcalmndoaa

/-- The number at the beginning of bytes, how many bytes it has, the error. -/
def rdGo : Nat → Nat → List UInt8 → Nat × Nat × Nat
  | _, _, [] => (0, 0, 2)
  | i, n, x :: l => if i = 0 ∧ x.toNat = 128 then (0, 0, 10) else if i = 9 then (0, 0, 5) else
    if x.toNat < 128 then (128 * n + x.toNat % 128, i + 1, 0) else rdGo (i + 1) (128 * n + x.toNat % 128) l
def rd (l : List UInt8) : Nat × Nat × Nat := rdGo 0 0 l

theorem rdGo_bd (l : List UInt8) : ∀ (i n : Nat), n < 128 ^ i → i ≤ 9 → (rdGo i n l).1 < 9223372036854775808 ∧ (rdGo i n l).2.1 ≤ i + l.length ∧ ((rdGo i n l).2.2 ≠ 0 → (rdGo i n l).1 = 0 ∧ (rdGo i n l).2.1 = 0) ∧ (rdGo i n l).2.2 ≤ 10 := by
  induction l with
  | nil => intro i n _ _; simp [rdGo]
  | cons x l ih =>
    intro i n hn hi
    unfold rdGo
    split
    · simp
    split
    · simp
    rename_i h9
    have hx : x.toNat % 128 < 128 := by omega
    have hp : 128 ^ i * 128 ≤ 128 ^ 9 := by
      rw [← Nat.pow_succ]; exact Nat.pow_le_pow_right (by omega) (by omega)
    have h9' : (128 : Nat) ^ 9 = 9223372036854775808 := by decide
    split
    · refine ⟨by show 128 * n + x.toNat % 128 < _; omega, by simp, by simp, by simp⟩
    · have := ih (i + 1) (128 * n + x.toNat % 128) (by rw [Nat.pow_succ]; omega) (by omega)
      refine ⟨this.1, by simp; omega, this.2.2.1, this.2.2.2⟩
theorem rd_bd (l : List UInt8) : (rd l).1 < 9223372036854775808 ∧ (rd l).2.1 ≤ l.length ∧ ((rd l).2.2 ≠ 0 → (rd l).1 = 0 ∧ (rd l).2.1 = 0) ∧ (rd l).2.2 ≤ 10 := by
  have := rdGo_bd l 0 0 (by simp) (by omega)
  simpa [rd] using this

/-- A scan: its bytes, how many were read, the first error. -/
structure ScS where
  b : List UInt8
  at_ : Nat
  e : Nat

def ScS.number (s : ScS) : Nat × ScS :=
  if s.e = 0 then ((rd (s.b.drop s.at_)).1, ⟨s.b, s.at_ + (rd (s.b.drop s.at_)).2.1, (rd (s.b.drop s.at_)).2.2⟩) else (0, s)
def ScS.text (s : ScS) (most : Int) : List UInt8 × ScS :=
  if s.e = 0 then
    if (rd (s.b.drop s.at_)).2.2 = 0 then
      if (most.toNat < (rd (s.b.drop s.at_)).1) then ([], ⟨s.b, s.at_, 4⟩)
      else if s.b.length < s.at_ + (rd (s.b.drop s.at_)).2.1 + (rd (s.b.drop s.at_)).1 then ([], ⟨s.b, s.at_, 2⟩)
      else ((s.b.drop (s.at_ + (rd (s.b.drop s.at_)).2.1)).take (rd (s.b.drop s.at_)).1, ⟨s.b, s.at_ + (rd (s.b.drop s.at_)).2.1 + (rd (s.b.drop s.at_)).1, 0⟩)
    else ([], ⟨s.b, s.at_, (rd (s.b.drop s.at_)).2.2⟩)
  else ([], s)
def ScS.flag (s : ScS) : Bool × ScS :=
  if s.e = 0 then
    if (rd (s.b.drop s.at_)).2.2 = 0 then
      if 1 < (rd (s.b.drop s.at_)).1 then (false, ⟨s.b, s.at_, 10⟩) else (decide ((rd (s.b.drop s.at_)).1 = 1), ⟨s.b, s.at_ + (rd (s.b.drop s.at_)).2.1, 0⟩)
    else (false, ⟨s.b, s.at_, (rd (s.b.drop s.at_)).2.2⟩)
  else (false, s)
def ScS.end_ (s : ScS) : ScS := if s.e = 0 ∧ s.at_ < s.b.length then ⟨s.b, s.at_, 3⟩ else s
def ScS.ok (s : ScS) : Prop := s.at_ ≤ s.b.length ∧ s.e ≤ 10
theorem ScS.ok_number {s : ScS} (h : s.ok) : s.number.2.ok ∧ s.number.1 < 9223372036854775808 := by
  unfold ScS.number
  split
  · have := rd_bd (s.b.drop s.at_)
    rw [List.length_drop] at this
    exact ⟨⟨by have := h.1; show s.at_ + (rd (s.b.drop s.at_)).2.1 ≤ s.b.length; omega, this.2.2.2⟩, this.1⟩
  · exact ⟨h, by show (0 : Nat) < _; omega⟩
end Go.Proofs.Ytikbpgcalmndoaa
