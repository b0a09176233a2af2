/-
  The document's sum (CRC-32): plain Lean, no program.
-/
import Derived.Test.YtikbpgcalmndoaaKit
set_option linter.unusedVariables false
set_option linter.unusedSimpArgs false
namespace Go.Proofs.Ytikbpgcalmndoaa

/-- One bit of a sum goes on. -/
def crcBit (c : Nat) : Nat := if 4294967296 ≤ 2 * c then (2 * c - 4294967296) ^^^ 79764919 else 2 * c
def crcBits : Nat → Nat → Nat
  | 0, c => c
  | i + 1, c => crcBit (crcBits i c)
def crcByte (c : Nat) (x : UInt8) : Nat := crcBits 8 (c ^^^ (x.toNat * 16777216))
def crcFrom (c : Nat) (l : List UInt8) : Nat := l.foldl crcByte c
def crc (l : List UInt8) : Nat := crcFrom 4294967295 l

theorem xor_lt {a b : Nat} (ha : a < 4294967296) (hb : b < 4294967296) : a ^^^ b < 4294967296 := by
  have := Nat.xor_lt_two_pow (n := 32) (x := a) (y := b) (by omega) (by omega)
  omega
theorem crcBit_lt {c : Nat} (h : c < 4294967296) : crcBit c < 4294967296 := by
  unfold crcBit
  split
  · exact xor_lt (by omega) (by omega)
  · omega
theorem crcBits_lt {c : Nat} (h : c < 4294967296) : ∀ i, crcBits i c < 4294967296
  | 0 => h
  | i + 1 => crcBit_lt (crcBits_lt h i)
theorem crc_in {c : Nat} (x : UInt8) (h : c < 4294967296) : c ^^^ (x.toNat * 16777216) < 4294967296 := xor_lt h (by have := x.toNat_lt; omega)
theorem crcByte_lt {c : Nat} (x : UInt8) (h : c < 4294967296) : crcByte c x < 4294967296 := crcBits_lt (crc_in x h) 8
theorem crcFrom_cons (x : UInt8) (l : List UInt8) (c : Nat) : crcFrom c (x :: l) = crcFrom (crcByte c x) l := by unfold crcFrom; rw [List.foldl_cons]
theorem crcFrom_lt (l : List UInt8) : ∀ {c : Nat}, c < 4294967296 → crcFrom c l < 4294967296 := by
  induction l with
  | nil => intro c h; exact h
  | cons x l ih =>
    intro c h
    rw [crcFrom_cons]
    exact ih (crcByte_lt x h)
theorem crc_lt (l : List UInt8) : crc l < 4294967296 := by unfold crc; exact crcFrom_lt l (by omega)
theorem crcFrom_append (l m : List UInt8) (c : Nat) : crcFrom c (l ++ m) = crcFrom (crcFrom c l) m := by simp [crcFrom]
theorem crcFrom_snoc (l : List UInt8) (x : UInt8) (c : Nat) : crcFrom c (l ++ [x]) = crcByte (crcFrom c l) x := by simp [crcFrom]
theorem crcBits_succ (i c : Nat) : crcBits (i + 1) c = crcBit (crcBits i c) := rfl
end Go.Proofs.Ytikbpgcalmndoaa
