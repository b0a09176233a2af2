/-
  Texts of this claim, put together: ScanSpec, SumSpec, RecSpec, LawRec, ScanLaw, Sum, RefSum, Record.
-/
import Derived.Test.YtkedmpppfejofaaZ10
import Derived.Test.YtkedmpppfejofaaZ1
import Derived.IntWalk
set_option linter.unusedVariables false
set_option linter.unusedSimpArgs false
namespace Go.Proofs.Ytkedmpppfejofaa

/-- The number at the beginning of bytes, how many bytes it has, the error. -/
def rdGo : Nat → Nat → List UInt8 → Nat × Nat × Nat
  | _, _, [] => (0, 0, 2)
  | i, n, x :: l => if i = 0 ∧ x.toNat = 128 then (0, 0, 10) else if i = 9 then (0, 0, 5) else
    if x.toNat < 128 then (128 * n + x.toNat % 128, i + 1, 0) else rdGo (i + 1) (128 * n + x.toNat % 128) l
def rd (l : List UInt8) : Nat × Nat × Nat := rdGo 0 0 l

theorem rdGo_bd (l : List UInt8) : ∀ (i n : Nat), n < 128 ^ i → i ≤ 9 → (rdGo i n l).1 < 9223372036854775808 ∧ (rdGo i n l).2.1 ≤ i + l.length ∧ ((rdGo i n l).2.2 ≠ 0 → (rdGo i n l).1 = 0 ∧ (rdGo i n l).2.1 = 0) ∧ (rdGo i n l).2.2 ≤ 10 := by
  induction l with
  | nil => intro i n _ _; simp [rdGo]
  | cons x l ih =>
    intro i n hn hi
    unfold rdGo
    split
    · simp
    split
    · simp
    rename_i h9
    have hx : x.toNat % 128 < 128 := by omega
    have hp : 128 ^ i * 128 ≤ 128 ^ 9 := by
      rw [← Nat.pow_succ]; exact Nat.pow_le_pow_right (by omega) (by omega)
    have h9' : (128 : Nat) ^ 9 = 9223372036854775808 := by decide
    split
    · refine ⟨by show 128 * n + x.toNat % 128 < _; omega, by simp, by simp, by simp⟩
    · have := ih (i + 1) (128 * n + x.toNat % 128) (by rw [Nat.pow_succ]; omega) (by omega)
      refine ⟨this.1, by simp; omega, this.2.2.1, this.2.2.2⟩
theorem rd_bd (l : List UInt8) : (rd l).1 < 9223372036854775808 ∧ (rd l).2.1 ≤ l.length ∧ ((rd l).2.2 ≠ 0 → (rd l).1 = 0 ∧ (rd l).2.1 = 0) ∧ (rd l).2.2 ≤ 10 := by
  have := rdGo_bd l 0 0 (by simp) (by omega)
  simpa [rd] using this

/-- A scan: its bytes, how many were read, the first error. -/
structure ScS where
  b : List UInt8
  at_ : Nat
  e : Nat

def ScS.number (s : ScS) : Nat × ScS :=
  if s.e = 0 then ((rd (s.b.drop s.at_)).1, ⟨s.b, s.at_ + (rd (s.b.drop s.at_)).2.1, (rd (s.b.drop s.at_)).2.2⟩) else (0, s)
def ScS.text (s : ScS) (most : Int) : List UInt8 × ScS :=
  if s.e = 0 then
    if (rd (s.b.drop s.at_)).2.2 = 0 then
      if (most.toNat < (rd (s.b.drop s.at_)).1) then ([], ⟨s.b, s.at_, 4⟩)
      else if s.b.length < s.at_ + (rd (s.b.drop s.at_)).2.1 + (rd (s.b.drop s.at_)).1 then ([], ⟨s.b, s.at_, 2⟩)
      else ((s.b.drop (s.at_ + (rd (s.b.drop s.at_)).2.1)).take (rd (s.b.drop s.at_)).1, ⟨s.b, s.at_ + (rd (s.b.drop s.at_)).2.1 + (rd (s.b.drop s.at_)).1, 0⟩)
    else ([], ⟨s.b, s.at_, (rd (s.b.drop s.at_)).2.2⟩)
  else ([], s)
def ScS.flag (s : ScS) : Bool × ScS :=
  if s.e = 0 then
    if (rd (s.b.drop s.at_)).2.2 = 0 then
      if 1 < (rd (s.b.drop s.at_)).1 then (false, ⟨s.b, s.at_, 10⟩) else (decide ((rd (s.b.drop s.at_)).1 = 1), ⟨s.b, s.at_ + (rd (s.b.drop s.at_)).2.1, 0⟩)
    else (false, ⟨s.b, s.at_, (rd (s.b.drop s.at_)).2.2⟩)
  else (false, s)
def ScS.end_ (s : ScS) : ScS := if s.e = 0 ∧ s.at_ < s.b.length then ⟨s.b, s.at_, 3⟩ else s
def ScS.ok (s : ScS) : Prop := s.at_ ≤ s.b.length ∧ s.e ≤ 10
theorem ScS.ok_number {s : ScS} (h : s.ok) : s.number.2.ok ∧ s.number.1 < 9223372036854775808 := by
  unfold ScS.number
  split
  · have := rd_bd (s.b.drop s.at_)
    rw [List.length_drop] at this
    exact ⟨⟨by have := h.1; show s.at_ + (rd (s.b.drop s.at_)).2.1 ≤ s.b.length; omega, this.2.2.2⟩, this.1⟩
  · exact ⟨h, by show (0 : Nat) < _; omega⟩
end Go.Proofs.Ytkedmpppfejofaa
set_option linter.unusedVariables false
set_option linter.unusedSimpArgs false
namespace Go.Proofs.Ytkedmpppfejofaa

/-- One bit of a sum goes on. -/
def crcBit (c : Nat) : Nat := if 4294967296 ≤ 2 * c then (2 * c - 4294967296) ^^^ 79764919 else 2 * c
def crcBits : Nat → Nat → Nat
  | 0, c => c
  | i + 1, c => crcBit (crcBits i c)
def crcByte (c : Nat) (x : UInt8) : Nat := crcBits 8 (c ^^^ (x.toNat * 16777216))
def crcFrom (c : Nat) (l : List UInt8) : Nat := l.foldl crcByte c
def crc (l : List UInt8) : Nat := crcFrom 4294967295 l

theorem xor_lt {a b : Nat} (ha : a < 4294967296) (hb : b < 4294967296) : a ^^^ b < 4294967296 := by
  have := Nat.xor_lt_two_pow (n := 32) (x := a) (y := b) (by omega) (by omega)
  omega
theorem crcBit_lt {c : Nat} (h : c < 4294967296) : crcBit c < 4294967296 := by
  unfold crcBit
  split
  · exact xor_lt (by omega) (by omega)
  · omega
theorem crcBits_lt {c : Nat} (h : c < 4294967296) : ∀ i, crcBits i c < 4294967296
  | 0 => h
  | i + 1 => crcBit_lt (crcBits_lt h i)
theorem crc_in {c : Nat} (x : UInt8) (h : c < 4294967296) : c ^^^ (x.toNat * 16777216) < 4294967296 := xor_lt h (by have := x.toNat_lt; omega)
theorem crcByte_lt {c : Nat} (x : UInt8) (h : c < 4294967296) : crcByte c x < 4294967296 := crcBits_lt (crc_in x h) 8
theorem crcFrom_cons (x : UInt8) (l : List UInt8) (c : Nat) : crcFrom c (x :: l) = crcFrom (crcByte c x) l := by unfold crcFrom; rw [List.foldl_cons]
theorem crcFrom_lt (l : List UInt8) : ∀ {c : Nat}, c < 4294967296 → crcFrom c l < 4294967296 := by
  induction l with
  | nil => intro c h; exact h
  | cons x l ih =>
    intro c h
    rw [crcFrom_cons]
    exact ih (crcByte_lt x h)
theorem crc_lt (l : List UInt8) : crc l < 4294967296 := by unfold crc; exact crcFrom_lt l (by omega)
theorem crcFrom_append (l m : List UInt8) (c : Nat) : crcFrom c (l ++ m) = crcFrom (crcFrom c l) m := by simp [crcFrom]
theorem crcFrom_snoc (l : List UInt8) (x : UInt8) (c : Nat) : crcFrom c (l ++ [x]) = crcByte (crcFrom c l) x := by simp [crcFrom]
theorem crcBits_succ (i c : Nat) : crcBits (i + 1) c = crcBit (crcBits i c) := rfl
end Go.Proofs.Ytkedmpppfejofaa
set_option linter.unusedVariables false
set_option linter.unusedSimpArgs false
namespace Go.Proofs.Ytkedmpppfejofaa

/-- A sum's four bytes. -/
def be4 (c : Nat) : List UInt8 := [byt (c / 16777216), byt (c / 65536), byt (c / 256), byt c]
theorem be4_len (c : Nat) : (be4 c).length = 4 := rfl
/-- What a payload's sum is of. -/
def body (p : List UInt8) : List UInt8 := byt 93 :: (digs p.length ++ p)
def rcd (p : List UInt8) : List UInt8 := body p ++ be4 (crc (body p))
def record (p : List UInt8) : List UInt8 × Nat := if 65536 < p.length then ([], 4) else (rcd p, 0)
/-- The record with which bytes begin. -/
def pick (b : List UInt8) : List UInt8 × Nat × Nat :=
  if b.length = 0 then ([], 0, 2) else if b[0]? ≠ some (byt 93) then ([], 0, 10) else
  if (rd (b.drop 1)).2.2 ≠ 0 then ([], 0, (rd (b.drop 1)).2.2) else
  if 65536 < (rd (b.drop 1)).1 then ([], 0, 4) else
  if b.length < 1 + (rd (b.drop 1)).2.1 + (rd (b.drop 1)).1 + 4 then ([], 0, 2) else
  if (b.drop (1 + (rd (b.drop 1)).2.1 + (rd (b.drop 1)).1)).take 4 ≠ be4 (crc (b.take (1 + (rd (b.drop 1)).2.1 + (rd (b.drop 1)).1))) then ([], 0, 11) else
  ((b.drop (1 + (rd (b.drop 1)).2.1)).take (rd (b.drop 1)).1, 1 + (rd (b.drop 1)).2.1 + (rd (b.drop 1)).1 + 4, 0)
end Go.Proofs.Ytkedmpppfejofaa
set_option linter.unusedVariables false
set_option linter.unusedSimpArgs false
namespace Go.Proofs.Ytkedmpppfejofaa

theorem rdGo_hi (j : Nat) : ∀ (m : Nat) (l : List UInt8), m < 128 ^ j → j ≤ 8 → rdGo 0 0 (hi m ++ l) = rdGo (hi m).length m l := by
  induction j with
  | zero =>
    intro m l h _
    have : m = 0 := by simpa using h
    subst this
    rw [hi_zero]; rfl
  | succ j ih =>
    intro m l h hj
    rcases Nat.eq_zero_or_pos m with h0 | h0
    · subst h0; rw [hi_zero]; rfl
    have hq : m / 128 < 128 ^ j := Nat.div_lt_of_lt_mul (by rw [Nat.pow_succ] at h; omega)
    rw [hi_pos m h0, List.append_assoc, ih _ _ hq (by omega), List.length_append, List.length_singleton, List.singleton_append]
    have hlen := hi_len j _ hq
    have hx : (byt (128 + m % 128)).toNat = 128 + m % 128 := by rw [byt_toNat]; omega
    rw [rdGo, hx, if_neg, if_neg (by omega), if_neg (by omega)]
    · congr 1; omega
    · rintro ⟨h1, h2⟩
      have : m / 128 = 0 := by
        rcases Nat.eq_zero_or_pos (m / 128) with h3 | h3
        · exact h3
        · rw [hi_pos _ h3, List.length_append, List.length_singleton] at h1; omega
      omega
/-- What is put is read. -/
theorem rd_digs (n : Nat) (l : List UInt8) (h : n < 9223372036854775808) : rd (digs n ++ l) = (n, (digs n).length, 0) := by
  have h9 : n / 128 < 128 ^ 8 := by
    have : (128 : Nat) ^ 8 = 72057594037927936 := by decide
    omega
  have hlen := hi_len 8 _ h9
  have hx : (byt (n % 128)).toNat = n % 128 := by rw [byt_toNat]; omega
  unfold rd digs
  rw [List.append_assoc, rdGo_hi 8 _ _ h9 (Nat.le_refl _), List.singleton_append, List.length_append, List.length_singleton, rdGo, hx, if_neg (by omega), if_neg (by omega), if_pos (by omega)]
  congr 1; omega
theorem byt_self (x : UInt8) : byt x.toNat = x := by
  apply UInt8.toNat.inj; rw [byt_toNat]; have := x.toNat_lt; omega
theorem rdGo_canon (l : List UInt8) : ∀ (i n : Nat), (hi n).length = i → (rdGo i n l).2.2 = 0 → i ≤ (rdGo i n l).2.1 ∧ (rdGo i n l).2.1 - i ≤ l.length ∧ hi n ++ l.take ((rdGo i n l).2.1 - i) = digs (rdGo i n l).1 := by
  induction l with
  | nil => intro i n _ h; simp [rdGo] at h
  | cons x l ih =>
    intro i n hi' he
    have hxl := x.toNat_lt
    unfold rdGo at he ⊢
    split at he
    · simp at he
    rename_i h1
    rw [if_neg h1]
    split at he
    · simp at he
    rename_i h2
    rw [if_neg h2]
    split at he
    · rename_i h3
      rw [if_pos h3]
      refine ⟨by simp, by simp, ?_⟩
      simp only [Nat.add_sub_cancel_left, List.take_succ_cons, List.take_zero]
      unfold digs
      rw [show (128 * n + x.toNat % 128) / 128 = n by omega, show (128 * n + x.toNat % 128) % 128 = x.toNat by omega, byt_self]
    · rename_i h3
      rw [if_neg h3]
      have hn0 : 0 < 128 * n + x.toNat % 128 := by
        rcases Nat.eq_zero_or_pos n with h4 | h4
        · subst h4
          rw [hi_zero] at hi'
          have : x.toNat ≠ 128 := fun h => h1 ⟨hi'.symm, h⟩
          omega
        · omega
      have hh : hi (128 * n + x.toNat % 128) = hi n ++ [x] := by
        rw [hi_pos _ hn0, show (128 * n + x.toNat % 128) / 128 = n by omega, show 128 + (128 * n + x.toNat % 128) % 128 = x.toNat by omega, byt_self]
      obtain ⟨g1, g2, g3⟩ := ih (i + 1) (128 * n + x.toNat % 128) (by rw [hh, List.length_append, hi']; rfl) he
      refine ⟨by omega, by simp only [List.length_cons]; omega, ?_⟩
      rw [hh] at g3
      rw [show (rdGo (i + 1) (128 * n + x.toNat % 128) l).2.1 - i = ((rdGo (i + 1) (128 * n + x.toNat % 128) l).2.1 - (i + 1)) + 1 by omega, List.take_succ_cons]
      rw [← g3]; simp
/-- What is read is what would be put. -/
theorem rd_form (l : List UInt8) (h : (rd l).2.2 = 0) : l.take (rd l).2.1 = digs (rd l).1 := by
  have := (rdGo_canon l 0 0 (by rw [hi_zero]; rfl) h).2.2
  simpa [rd, hi_zero] using this
theorem rd_form_len (l : List UInt8) (h : (rd l).2.2 = 0) : (rd l).2.1 = (digs (rd l).1).length := by
  have h1 := rd_form l h
  have h2 := (rd_bd l).2.1
  rw [← h1, List.length_take]; omega

/-! ### sums -/
theorem crcBit_inj {a b : Nat} (ha : a < 4294967296) (hb : b < 4294967296) (h : crcBit a = crcBit b) : a = b := by
  unfold crcBit at h
  have hx : ∀ c : Nat, ((2 * c - 4294967296) ^^^ 79764919) % 2 = 1 := fun c => by
    rw [Nat.mod_two_eq_one_iff_testBit_zero, Nat.testBit_xor, Nat.testBit_zero, Nat.testBit_zero]
    have : (2 * c - 4294967296) % 2 = 0 := by omega
    rw [this]; rfl
  have ha2 := hx a
  have hb2 := hx b
  split at h <;> split at h
  · have := congrArg (· ^^^ 79764919) h
    simp only [Nat.xor_assoc, Nat.xor_self, Nat.xor_zero] at this
    omega
  · omega
  · omega
  · omega
theorem crcBits_inj (i : Nat) : ∀ {a b : Nat}, a < 4294967296 → b < 4294967296 → crcBits i a = crcBits i b → a = b := by
  induction i with
  | zero => intro a b _ _ h; exact h
  | succ i ih => intro a b ha hb h; exact ih ha hb (crcBit_inj (crcBits_lt ha i) (crcBits_lt hb i) h)
theorem crcByte_inj {a b : Nat} (x : UInt8) (ha : a < 4294967296) (hb : b < 4294967296) (h : crcByte a x = crcByte b x) : a = b := by
  have := congrArg (· ^^^ (x.toNat * 16777216)) (crcBits_inj 8 (crc_in x ha) (crc_in x hb) h)
  simpa only [Nat.xor_assoc, Nat.xor_self, Nat.xor_zero] using this
theorem crcByte_inj2 {a : Nat} {x y : UInt8} (ha : a < 4294967296) (h : crcByte a x = crcByte a y) : x = y := by
  have := congrArg (a ^^^ ·) (crcBits_inj 8 (crc_in x ha) (crc_in y ha) h)
  simp only [← Nat.xor_assoc, Nat.xor_self, Nat.zero_xor] at this
  exact UInt8.toNat.inj (by omega)
theorem crcFrom_inj (l : List UInt8) : ∀ {a b : Nat}, a < 4294967296 → b < 4294967296 → crcFrom a l = crcFrom b l → a = b := by
  induction l with
  | nil => intro a b _ _ h; exact h
  | cons x l ih =>
    intro a b ha hb h
    rw [crcFrom_cons, crcFrom_cons] at h
    exact crcByte_inj x ha hb (ih (crcByte_lt x ha) (crcByte_lt x hb) h)
/-- Of two texts that differ in one byte alone the sums differ. -/
theorem crc_set (l : List UInt8) (i : Nat) (h : i < l.length) (z : UInt8) (hz : l[i] ≠ z) : crc (l.set i z) ≠ crc l := by
  intro e
  have h1 : l = l.take i ++ l[i] :: l.drop (i + 1) := by simp
  have h2 : l.set i z = l.take i ++ z :: l.drop (i + 1) := List.set_eq_take_append_cons_drop.trans (by rw [if_pos h])
  have h3 : crc l = crcFrom (crcByte (crc (l.take i)) l[i]) (l.drop (i + 1)) := by
    conv => lhs; rw [h1]
    unfold crc; rw [crcFrom_append, crcFrom_cons]
  have h4 : crc (l.set i z) = crcFrom (crcByte (crc (l.take i)) z) (l.drop (i + 1)) := by
    rw [h2]; unfold crc; rw [crcFrom_append, crcFrom_cons]
  rw [h3, h4] at e
  have hc := crc_lt (l.take i)
  exact hz (crcByte_inj2 hc (crcFrom_inj _ (crcByte_lt _ hc) (crcByte_lt _ hc) e)).symm
theorem byt_inj {a b : Nat} (h : byt a = byt b) : a % 256 = b % 256 := by
  have := congrArg UInt8.toNat h
  rwa [byt_toNat, byt_toNat] at this
theorem be4_inj {a b : Nat} (ha : a < 4294967296) (hb : b < 4294967296) (h : be4 a = be4 b) : a = b := by
  unfold be4 at h
  injection h with h1 h
  injection h with h2 h
  injection h with h3 h
  injection h with h4 h
  have := byt_inj h1; have := byt_inj h2; have := byt_inj h3; have := byt_inj h4
  omega

/-! ### records -/
theorem body_len (p : List UInt8) : (body p).length = 1 + (digs p.length).length + p.length := by simp [body]; omega
theorem rcd_len (p : List UInt8) : (rcd p).length = 1 + (digs p.length).length + p.length + 4 := by simp [rcd, body_len, be4_len]
theorem pick_len (b : List UInt8) : (pick b).1.length ≤ 65536 ∧ (pick b).2.1 ≤ b.length := by
  unfold pick
  split
  · simp
  split
  · simp
  split
  · simp
  split
  · simp
  split
  · simp
  split
  · simp
  · rename_i h1 h2 h3 h4 h5 h6
    constructor
    · simp only [List.length_take]; omega
    · show 1 + (rd (List.drop 1 b)).2.1 + (rd (List.drop 1 b)).1 + 4 ≤ b.length; omega
/-- Whatever begins as a record does: how long it is. -/
theorem pick_of (n : Nat) (m s l : List UInt8) (hn : n < 9223372036854775808) (hm : m.length = n) (hs : s.length = 4) (h : n ≤ 65536) :
    pick (byt 93 :: (digs n ++ (m ++ (s ++ l)))) = if s ≠ be4 (crc (byt 93 :: (digs n ++ m))) then ([], 0, 11) else (m, 1 + (digs n).length + n + 4, 0) := by
  have hd : (byt 93 :: (digs n ++ (m ++ (s ++ l)))).drop 1 = digs n ++ (m ++ (s ++ l)) := rfl
  have hr := rd_digs n (m ++ (s ++ l)) hn
  have e1 : (byt 93 :: (digs n ++ (m ++ (s ++ l)))) = (byt 93 :: (digs n ++ m)) ++ (s ++ l) := by simp
  have e2 : 1 + (digs n).length + n = (byt 93 :: (digs n ++ m)).length := by simp [hm]; omega
  have e3 : (byt 93 :: (digs n ++ (m ++ (s ++ l)))) = (byt 93 :: digs n) ++ (m ++ (s ++ l)) := by simp
  have e4 : 1 + (digs n).length = (byt 93 :: digs n).length := by simp; omega
  unfold pick
  rw [hd, hr]
  simp only
  rw [if_neg (by simp), if_neg (by simp), if_neg (by simp), if_neg (by omega), if_neg (by simp; omega)]
  have t1 : ((byt 93 :: (digs n ++ (m ++ (s ++ l)))).drop (1 + (digs n).length + n)).take 4 = s := by
    rw [e1, e2, List.drop_left, ← hs, List.take_left]
  have t2 : (byt 93 :: (digs n ++ (m ++ (s ++ l)))).take (1 + (digs n).length + n) = byt 93 :: (digs n ++ m) := by
    rw [e1, e2, List.take_left]
  have t3 : ((byt 93 :: (digs n ++ (m ++ (s ++ l)))).drop (1 + (digs n).length)).take n = m := by
    rw [e3, e4, List.drop_left, ← hm, List.take_left]
  rw [t1, t2, t3]
/-- A payload's record is read, whatever stands behind. -/
theorem pick_rcd (p l : List UInt8) (h : p.length ≤ 65536) : pick (rcd p ++ l) = (p, (rcd p).length, 0) := by
  have e : rcd p ++ l = byt 93 :: (digs p.length ++ (p ++ (be4 (crc (body p)) ++ l))) := by simp [rcd, body]
  rw [e, pick_of p.length p _ l (by omega) rfl (be4_len _) h, if_neg (by simp [body]), rcd_len]
/-- One byte of the payload or the sum is another one. -/
theorem pick_turned (p : List UInt8) (hp : p.length ≤ 65536) (i : Nat) (h1 : 1 + (digs p.length).length ≤ i) (h2 : i < (rcd p).length) (z : UInt8) (hz : (rcd p)[i] ≠ z) : pick ((rcd p).set i z) = ([], 0, 11) := by
  have hb := body_len p
  have hl := rcd_len p
  rcases Nat.lt_or_ge i (body p).length with hi | hi
  · -- in the payload
    have hs : (rcd p).set i z = (body p).set i z ++ be4 (crc (body p)) := by
      unfold rcd; rw [List.set_append_left _ _ hi]
    have hz' : (body p)[i] ≠ z := by
      intro e; apply hz; rw [← e]; simp only [rcd]; rw [List.getElem_append_left hi]
    have hb2 : body p = (byt 93 :: digs p.length) ++ p := by simp [body]
    have hk : (byt 93 :: digs p.length).length = 1 + (digs p.length).length := by simp; omega
    have hset : (body p).set i z = byt 93 :: (digs p.length ++ p.set (i - (1 + (digs p.length).length)) z) := by
      rw [hb2, List.set_append_right _ _ (by omega), hk]; simp
    have hc := crc_set (body p) i hi z hz'
    rw [hs]
    rw [hset] at hc ⊢
    have := pick_of p.length (p.set (i - (1 + (digs p.length).length)) z) (be4 (crc (body p))) [] (by omega) (by simp) (be4_len _) hp
    simp only [List.append_nil] at this
    rw [show byt 93 :: (digs p.length ++ p.set (i - (1 + (digs p.length).length)) z) ++ be4 (crc (body p)) = byt 93 :: (digs p.length ++ (p.set (i - (1 + (digs p.length).length)) z ++ be4 (crc (body p)))) by simp, this, if_pos]
    intro e
    exact hc (be4_inj (crc_lt _) (crc_lt _) e).symm
  · -- in the sum
    have hj : i - (body p).length < 4 := by omega
    have hs : (rcd p).set i z = body p ++ (be4 (crc (body p))).set (i - (body p).length) z := by
      unfold rcd; rw [List.set_append_right _ _ hi]
    have hz' : (be4 (crc (body p)))[i - (body p).length]'(by rw [be4_len]; exact hj) ≠ z := by
      intro e; apply hz; rw [← e]; simp only [rcd]; rw [List.getElem_append_right hi]
    rw [hs]
    have := pick_of p.length p ((be4 (crc (body p))).set (i - (body p).length) z) [] (by omega) rfl (by simp [be4_len]) hp
    simp only [List.append_nil] at this
    rw [show body p ++ (be4 (crc (body p))).set (i - (body p).length) z = byt 93 :: (digs p.length ++ (p ++ (be4 (crc (body p))).set (i - (body p).length) z)) by simp [body], this, if_pos]
    intro e
    apply hz'
    have h3 : ((be4 (crc (body p))).set (i - (body p).length) z)[i - (body p).length]? = (be4 (crc (body p)))[i - (body p).length]? := by rw [e]; rfl
    rw [List.getElem?_set_self (by rw [be4_len]; exact hj), List.getElem?_eq_getElem (by rw [be4_len]; exact hj)] at h3
    injection h3 with h3
    exact h3.symm
end Go.Proofs.Ytkedmpppfejofaa
set_option linter.unusedVariables false
set_option linter.unusedSimpArgs false
namespace Go.Proofs.Ytkedmpppfejofaa
open Go.RowKit

/-- What is left to read. -/
def ScS.rest (s : ScS) : List UInt8 := s.b.drop s.at_
def ScS.in_ (s : ScS) : Prop := s.at_ ≤ s.b.length
theorem ScS.in_number {s : ScS} (h : s.in_) : s.number.2.in_ := by
  unfold ScS.number ScS.in_
  split
  · have := rd_bd (s.b.drop s.at_)
    rw [List.length_drop] at this
    unfold ScS.in_ at h
    show s.at_ + _ ≤ s.b.length
    omega
  · exact h
theorem ScS.in_text {s : ScS} (h : s.in_) (most : Int) : (s.text most).2.in_ := by
  unfold ScS.text
  split
  · split
    · split
      · exact h
      · split
        · exact h
        · rename_i h3
          show _ ≤ s.b.length
          simp only at *
          omega
    · exact h
  · exact h
theorem ScS.in_flag {s : ScS} (h : s.in_) : s.flag.2.in_ := by
  have h1 := rd_bd (s.b.drop s.at_)
  rw [List.length_drop] at h1
  unfold ScS.in_ at h
  unfold ScS.flag
  split
  · split
    · split
      · exact h
      · show s.at_ + _ ≤ s.b.length
        omega
    · exact h
  · exact h
/-- A number that was read stood there. -/
theorem numC {s : ScS} (hs : s.in_) (h : s.number.2.e = 0) : s.e = 0 ∧ s.rest = digs s.number.1 ++ s.number.2.rest := by
  unfold ScS.number at h ⊢
  by_cases he : s.e = 0
  · rw [if_pos he] at h ⊢
    refine ⟨he, ?_⟩
    have hf := rd_form (s.b.drop s.at_) h
    show s.b.drop s.at_ = digs (rd (s.b.drop s.at_)).1 ++ s.b.drop (s.at_ + (rd (s.b.drop s.at_)).2.1)
    rw [← hf, ← List.drop_drop, List.take_append_drop]
  · rw [if_neg he] at h
    exact absurd h he
theorem textC {s : ScS} (hs : s.in_) (most : Int) (h : (s.text most).2.e = 0) : s.e = 0 ∧ s.rest = digs (s.text most).1.length ++ ((s.text most).1 ++ (s.text most).2.rest) ∧ (s.text most).1.length ≤ most.toNat := by
  have h1 := rd_bd (s.b.drop s.at_)
  rw [List.length_drop] at h1
  unfold ScS.in_ at hs
  unfold ScS.text at h ⊢
  by_cases he : s.e = 0
  · rw [if_pos he] at h ⊢
    by_cases h2 : (rd (s.b.drop s.at_)).2.2 = 0
    · rw [if_pos h2] at h ⊢
      by_cases h3 : most.toNat < (rd (s.b.drop s.at_)).1
      · rw [if_pos h3] at h; cases h
      · rw [if_neg h3] at h ⊢
        by_cases h4 : s.b.length < s.at_ + (rd (s.b.drop s.at_)).2.1 + (rd (s.b.drop s.at_)).1
        · rw [if_pos h4] at h; cases h
        · rw [if_neg h4]
          have hf := rd_form (s.b.drop s.at_) h2
          have hl : ((s.b.drop (s.at_ + (rd (s.b.drop s.at_)).2.1)).take (rd (s.b.drop s.at_)).1).length = (rd (s.b.drop s.at_)).1 := by rw [List.length_take, List.length_drop]; omega
          refine ⟨he, ?_, by show List.length (List.take _ _) ≤ _; rw [hl]; omega⟩
          show s.b.drop s.at_ = digs (List.length (List.take _ _)) ++ (List.take _ _ ++ s.b.drop (s.at_ + (rd (s.b.drop s.at_)).2.1 + (rd (s.b.drop s.at_)).1))
          rw [hl, ← hf, ← List.drop_drop (j := s.at_ + (rd (s.b.drop s.at_)).2.1), List.take_append_drop, ← List.drop_drop (j := s.at_), List.take_append_drop]
    · rw [if_neg h2] at h; exact absurd h h2
  · rw [if_neg he] at h; exact absurd h he
theorem flagC {s : ScS} (hs : s.in_) (h : s.flag.2.e = 0) : s.e = 0 ∧ s.rest = digs s.flag.1.toNat ++ s.flag.2.rest := by
  unfold ScS.flag at h ⊢
  by_cases he : s.e = 0
  · rw [if_pos he] at h ⊢
    by_cases h2 : (rd (s.b.drop s.at_)).2.2 = 0
    · rw [if_pos h2] at h ⊢
      by_cases h3 : 1 < (rd (s.b.drop s.at_)).1
      · rw [if_pos h3] at h; cases h
      · rw [if_neg h3]
        refine ⟨he, ?_⟩
        have hf := rd_form (s.b.drop s.at_) h2
        show s.b.drop s.at_ = digs (decide ((rd (s.b.drop s.at_)).1 = 1)).toNat ++ s.b.drop (s.at_ + (rd (s.b.drop s.at_)).2.1)
        have h4 : (decide ((rd (s.b.drop s.at_)).1 = 1)).toNat = (rd (s.b.drop s.at_)).1 := by
          rcases (show (rd (s.b.drop s.at_)).1 = 0 ∨ (rd (s.b.drop s.at_)).1 = 1 by omega) with h5 | h5 <;> rw [h5] <;> rfl
        rw [h4, ← hf, ← List.drop_drop, List.take_append_drop]
    · rw [if_neg h2] at h; exact absurd h h2
  · rw [if_neg he] at h; exact absurd h he

/-! ### what was put is read -/
/-- The state in which l is left to read. -/
structure St (s : ScS) (l : List UInt8) : Prop where
  e : s.e = 0
  in_ : s.in_
  rest : s.rest = l
theorem drop_of_append {α : Type} {b x l : List α} {a : Nat} (h : b.drop a = x ++ l) : b.drop (a + x.length) = l := by
  rw [← List.drop_drop, h, List.drop_left]
theorem numB {s : ScS} {n : Nat} {l : List UInt8} (h : St s (digs n ++ l)) (hn : n < 9223372036854775808) : ∃ s', s.number = (n, s') ∧ St s' l := by
  have hr : s.b.drop s.at_ = digs n ++ l := h.rest
  have hrd := rd_digs n l hn
  have hin := h.in_
  unfold ScS.in_ at hin
  have hlen := congrArg List.length hr
  rw [List.length_drop, List.length_append] at hlen
  refine ⟨⟨s.b, s.at_ + (digs n).length, 0⟩, ?_, rfl, ?_, drop_of_append hr⟩
  · unfold ScS.number
    rw [if_pos h.e, hr, hrd]
  · show s.at_ + (digs n).length ≤ s.b.length
    omega
theorem textB {s : ScS} {t l : List UInt8} (most : Int) (h : St s (digs t.length ++ (t ++ l))) (hn : t.length < 9223372036854775808) (hm : t.length ≤ most.toNat) : ∃ s', s.text most = (t, s') ∧ St s' l := by
  have hr : s.b.drop s.at_ = digs t.length ++ (t ++ l) := h.rest
  have hrd := rd_digs t.length (t ++ l) hn
  have hin := h.in_
  unfold ScS.in_ at hin
  have hlen := congrArg List.length hr
  rw [List.length_drop, List.length_append, List.length_append] at hlen
  have h2 := drop_of_append hr
  refine ⟨⟨s.b, s.at_ + (digs t.length).length + t.length, 0⟩, ?_, rfl, ?_, drop_of_append h2⟩
  · unfold ScS.text
    rw [if_pos h.e, hr, hrd]
    simp only [if_true]
    rw [if_neg (by omega), if_neg (by omega), h2, List.take_left]
  · show _ ≤ s.b.length
    simp only
    omega
theorem flagB {s : ScS} {b : Bool} {l : List UInt8} (h : St s (digs b.toNat ++ l)) : ∃ s', s.flag = (b, s') ∧ St s' l := by
  have hr : s.b.drop s.at_ = digs b.toNat ++ l := h.rest
  have hrd := rd_digs b.toNat l (by cases b <;> decide)
  have hin := h.in_
  unfold ScS.in_ at hin
  have hlen := congrArg List.length hr
  rw [List.length_drop, List.length_append] at hlen
  refine ⟨⟨s.b, s.at_ + (digs b.toNat).length, 0⟩, ?_, rfl, ?_, drop_of_append hr⟩
  · unfold ScS.flag
    rw [if_pos h.e, hr, hrd]
    cases b <;> simp
  · show s.at_ + _ ≤ s.b.length
    omega
theorem st0 (p : List UInt8) : St ⟨p, 0, 0⟩ p := ⟨rfl, Nat.zero_le _, rfl⟩
theorem end_zero {s : ScS} (h : s.end_.e = 0) (hi : s.in_) : s.e = 0 ∧ s.rest = [] := by
  unfold ScS.end_ at h
  split at h
  · cases h
  · rename_i hn
    refine ⟨h, ?_⟩
    unfold ScS.in_ at hi
    show s.b.drop s.at_ = []
    rw [List.drop_eq_nil_iff]
    omega
theorem St.end_ {s : ScS} (h : St s []) : s.end_.e = 0 := by
  unfold ScS.end_
  rw [if_neg, h.e]
  have hr : s.b.drop s.at_ = [] := h.rest
  rw [List.drop_eq_nil_iff] at hr
  omega
end Go.Proofs.Ytkedmpppfejofaa
set_option linter.unusedVariables false
set_option linter.unusedSimpArgs false
namespace Go.Proofs.Ytkedmpppfejofaa
open Go.RowKit

theorem bv_u32 (a : Nat) (ha : a < 4294967296) : (BitVec.ofInt 32 (a : Int)).toNat = a := by
  rw [BitVec.ofInt_natCast, BitVec.toNat_ofNat]; exact Nat.mod_eq_of_lt (by omega)
theorem xor_u32 (a b : Nat) (ha : a < 4294967296) (hb : b < 4294967296) : bits .xor .u32 (a : Int) (b : Int) = ((a ^^^ b : Nat) : Int) := by
  have hx := xor_lt ha hb
  show IntKind.u32.wrap ((BitVec.ofInt 32 (a : Int) ^^^ BitVec.ofInt 32 (b : Int)).toNat : Int) = _
  rw [BitVec.toNat_xor, bv_u32 a ha, bv_u32 b hb, IntKind.wrap_u32]
  omega

theorem bit_step (q : Nat) (h : q < 4294967296) : bits .xor .u32 ((q : Int) * 2 % 4294967296) (79764919 * ((q : Int) / 2147483648)) = ((crcBit q : Nat) : Int) := by
  unfold crcBit
  split
  · rename_i h1
    have h2 := xor_u32 (2 * q - 4294967296) 79764919 (by omega) (by omega)
    have e1 : (q : Int) * 2 % 4294967296 = ((2 * q - 4294967296 : Nat) : Int) := by omega
    have e2 : 79764919 * ((q : Int) / 2147483648) = ((79764919 : Nat) : Int) := by omega
    rw [e1, e2]
    exact h2
  · rename_i h1
    have h2 := xor_u32 (2 * q) 0 (by omega) (by omega)
    rw [Nat.xor_zero] at h2
    have e1 : (q : Int) * 2 % 4294967296 = ((2 * q : Nat) : Int) := by omega
    have e2 : 79764919 * ((q : Int) / 2147483648) = ((0 : Nat) : Int) := by omega
    rw [e1, e2]
    exact h2

end Go.Proofs.Ytkedmpppfejofaa
set_option linter.unusedVariables false
set_option linter.unusedSimpArgs false
namespace Go.Proofs.Ytkedmpppfejofaa
open Go.RowKit

theorem xor_i64 (a b : Nat) (ha : a < 4294967296) (hb : b < 4294967296) : bits .xor .i64 (a : Int) (b : Int) = ((a ^^^ b : Nat) : Int) := by
  have hx := xor_lt ha hb
  show IntKind.i64.wrap ((BitVec.ofInt 64 (a : Int) ^^^ BitVec.ofInt 64 (b : Int)).toNat : Int) = _
  rw [BitVec.toNat_xor, bv_i64 a (by omega), bv_i64 b (by omega), IntKind.wrap_i64]
  omega

end Go.Proofs.Ytkedmpppfejofaa
set_option linter.unusedVariables false
set_option linter.unusedSimpArgs false
namespace Go.Proofs.Ytkedmpppfejofaa
open Go.RowKit
theorem Rs.four_ {w : World} {S : Nat → Prop} {g t : Nat} {fz : Nat × Nat} {x0 x1 x2 x3 : UInt8} (hb : w.heap[g]? = some (.cells #[encB x0, encB x1, encB x2, encB x3] t fz)) (hS : S g) :
    Rs kByte w S (.slice (some ⟨g, 0, none⟩) 4 4) [x0, x1, x2, x3] :=
  ⟨_, 4, rfl, by simp, by omega, by simp, Row.bytes_of hb hS fun j x hj => by
    match j, hj with
    | 0, hj => simp at hj; subst hj; rfl
    | 1, hj => simp at hj; subst hj; rfl
    | 2, hj => simp at hj; subst hj; rfl
    | 3, hj => simp at hj; subst hj; rfl⟩

end Go.Proofs.Ytkedmpppfejofaa
