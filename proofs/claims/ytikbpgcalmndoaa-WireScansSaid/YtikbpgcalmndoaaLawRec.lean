/-
  Plain laws of numbers, sums and records: no program.
-/
import Derived.Test.YtikbpgcalmndoaaRecSpec
set_option linter.unusedVariables false
set_option linter.unusedSimpArgs false
namespace Go.Proofs.Ytikbpgcalmndoaa

theorem rdGo_hi (j : Nat) : ∀ (m : Nat) (l : List UInt8), m < 128 ^ j → j ≤ 8 → rdGo 0 0 (hi m ++ l) = rdGo (hi m).length m l := by
  induction j with
  | zero =>
    intro m l h _
    have : m = 0 := by simpa using h
    subst this
    rw [hi_zero]; rfl
  | succ j ih =>
    intro m l h hj
    rcases Nat.eq_zero_or_pos m with h0 | h0
    · subst h0; rw [hi_zero]; rfl
    have hq : m / 128 < 128 ^ j := Nat.div_lt_of_lt_mul (by rw [Nat.pow_succ] at h; omega)
    rw [hi_pos m h0, List.append_assoc, ih _ _ hq (by omega), List.length_append, List.length_singleton, List.singleton_append]
    have hlen := hi_len j _ hq
    have hx : (byt (128 + m % 128)).toNat = 128 + m % 128 := by rw [byt_toNat]; omega
    rw [rdGo, hx, if_neg, if_neg (by omega), if_neg (by omega)]
    · congr 1; omega
    · rintro ⟨h1, h2⟩
      have : m / 128 = 0 := by
        rcases Nat.eq_zero_or_pos (m / 128) with h3 | h3
        · exact h3
        · rw [hi_pos _ h3, List.length_append, List.length_singleton] at h1; omega
      omega
/-- What is put is read. -/
theorem rd_digs (n : Nat) (l : List UInt8) (h : n < 9223372036854775808) : rd (digs n ++ l) = (n, (digs n).length, 0) := by
  have h9 : n / 128 < 128 ^ 8 := by
    have : (128 : Nat) ^ 8 = 72057594037927936 := by decide
    omega
  have hlen := hi_len 8 _ h9
  have hx : (byt (n % 128)).toNat = n % 128 := by rw [byt_toNat]; omega
  unfold rd digs
  rw [List.append_assoc, rdGo_hi 8 _ _ h9 (Nat.le_refl _), List.singleton_append, List.length_append, List.length_singleton, rdGo, hx, if_neg (by omega), if_neg (by omega), if_pos (by omega)]
  congr 1; omega
theorem byt_self (x : UInt8) : byt x.toNat = x := by
  apply UInt8.toNat.inj; rw [byt_toNat]; have := x.toNat_lt; omega
theorem rdGo_canon (l : List UInt8) : ∀ (i n : Nat), (hi n).length = i → (rdGo i n l).2.2 = 0 → i ≤ (rdGo i n l).2.1 ∧ (rdGo i n l).2.1 - i ≤ l.length ∧ hi n ++ l.take ((rdGo i n l).2.1 - i) = digs (rdGo i n l).1 := by
  induction l with
  | nil => intro i n _ h; simp [rdGo] at h
  | cons x l ih =>
    intro i n hi' he
    have hxl := x.toNat_lt
    unfold rdGo at he ⊢
    split at he
    · simp at he
    rename_i h1
    rw [if_neg h1]
    split at he
    · simp at he
    rename_i h2
    rw [if_neg h2]
    split at he
    · rename_i h3
      rw [if_pos h3]
      refine ⟨by simp, by simp, ?_⟩
      simp only [Nat.add_sub_cancel_left, List.take_succ_cons, List.take_zero]
      unfold digs
      rw [show (128 * n + x.toNat % 128) / 128 = n by omega, show (128 * n + x.toNat % 128) % 128 = x.toNat by omega, byt_self]
    · rename_i h3
      rw [if_neg h3]
      have hn0 : 0 < 128 * n + x.toNat % 128 := by
        rcases Nat.eq_zero_or_pos n with h4 | h4
        · subst h4
          rw [hi_zero] at hi'
          have : x.toNat ≠ 128 := fun h => h1 ⟨hi'.symm, h⟩
          omega
        · omega
      have hh : hi (128 * n + x.toNat % 128) = hi n ++ [x] := by
        rw [hi_pos _ hn0, show (128 * n + x.toNat % 128) / 128 = n by omega, show 128 + (128 * n + x.toNat % 128) % 128 = x.toNat by omega, byt_self]
      obtain ⟨g1, g2, g3⟩ := ih (i + 1) (128 * n + x.toNat % 128) (by rw [hh, List.length_append, hi']; rfl) he
      refine ⟨by omega, by simp only [List.length_cons]; omega, ?_⟩
      rw [hh] at g3
      rw [show (rdGo (i + 1) (128 * n + x.toNat % 128) l).2.1 - i = ((rdGo (i + 1) (128 * n + x.toNat % 128) l).2.1 - (i + 1)) + 1 by omega, List.take_succ_cons]
      rw [← g3]; simp
/-- What is read is what would be put. -/
theorem rd_form (l : List UInt8) (h : (rd l).2.2 = 0) : l.take (rd l).2.1 = digs (rd l).1 := by
  have := (rdGo_canon l 0 0 (by rw [hi_zero]; rfl) h).2.2
  simpa [rd, hi_zero] using this
theorem rd_form_len (l : List UInt8) (h : (rd l).2.2 = 0) : (rd l).2.1 = (digs (rd l).1).length := by
  have h1 := rd_form l h
  have h2 := (rd_bd l).2.1
  rw [← h1, List.length_take]; omega

/-! ### sums -/
theorem crcBit_inj {a b : Nat} (ha : a < 4294967296) (hb : b < 4294967296) (h : crcBit a = crcBit b) : a = b := by
  unfold crcBit at h
  have hx : ∀ c : Nat, ((2 * c - 4294967296) ^^^ 79764919) % 2 = 1 := fun c => by
    rw [Nat.mod_two_eq_one_iff_testBit_zero, Nat.testBit_xor, Nat.testBit_zero, Nat.testBit_zero]
    have : (2 * c - 4294967296) % 2 = 0 := by omega
    rw [this]; rfl
  have ha2 := hx a
  have hb2 := hx b
  split at h <;> split at h
  · have := congrArg (· ^^^ 79764919) h
    simp only [Nat.xor_assoc, Nat.xor_self, Nat.xor_zero] at this
    omega
  · omega
  · omega
  · omega
theorem crcBits_inj (i : Nat) : ∀ {a b : Nat}, a < 4294967296 → b < 4294967296 → crcBits i a = crcBits i b → a = b := by
  induction i with
  | zero => intro a b _ _ h; exact h
  | succ i ih => intro a b ha hb h; exact ih ha hb (crcBit_inj (crcBits_lt ha i) (crcBits_lt hb i) h)
theorem crcByte_inj {a b : Nat} (x : UInt8) (ha : a < 4294967296) (hb : b < 4294967296) (h : crcByte a x = crcByte b x) : a = b := by
  have := congrArg (· ^^^ (x.toNat * 16777216)) (crcBits_inj 8 (crc_in x ha) (crc_in x hb) h)
  simpa only [Nat.xor_assoc, Nat.xor_self, Nat.xor_zero] using this
theorem crcByte_inj2 {a : Nat} {x y : UInt8} (ha : a < 4294967296) (h : crcByte a x = crcByte a y) : x = y := by
  have := congrArg (a ^^^ ·) (crcBits_inj 8 (crc_in x ha) (crc_in y ha) h)
  simp only [← Nat.xor_assoc, Nat.xor_self, Nat.zero_xor] at this
  exact UInt8.toNat.inj (by omega)
theorem crcFrom_inj (l : List UInt8) : ∀ {a b : Nat}, a < 4294967296 → b < 4294967296 → crcFrom a l = crcFrom b l → a = b := by
  induction l with
  | nil => intro a b _ _ h; exact h
  | cons x l ih =>
    intro a b ha hb h
    rw [crcFrom_cons, crcFrom_cons] at h
    exact crcByte_inj x ha hb (ih (crcByte_lt x ha) (crcByte_lt x hb) h)
/-- Of two texts that differ in one byte alone the sums differ. -/
theorem crc_set (l : List UInt8) (i : Nat) (h : i < l.length) (z : UInt8) (hz : l[i] ≠ z) : crc (l.set i z) ≠ crc l := by
  intro e
  have h1 : l = l.take i ++ l[i] :: l.drop (i + 1) := by simp
  have h2 : l.set i z = l.take i ++ z :: l.drop (i + 1) := List.set_eq_take_append_cons_drop.trans (by rw [if_pos h])
  have h3 : crc l = crcFrom (crcByte (crc (l.take i)) l[i]) (l.drop (i + 1)) := by
    conv => lhs; rw [h1]
    unfold crc; rw [crcFrom_append, crcFrom_cons]
  have h4 : crc (l.set i z) = crcFrom (crcByte (crc (l.take i)) z) (l.drop (i + 1)) := by
    rw [h2]; unfold crc; rw [crcFrom_append, crcFrom_cons]
  rw [h3, h4] at e
  have hc := crc_lt (l.take i)
  exact hz (crcByte_inj2 hc (crcFrom_inj _ (crcByte_lt _ hc) (crcByte_lt _ hc) e)).symm
theorem byt_inj {a b : Nat} (h : byt a = byt b) : a % 256 = b % 256 := by
  have := congrArg UInt8.toNat h
  rwa [byt_toNat, byt_toNat] at this
theorem be4_inj {a b : Nat} (ha : a < 4294967296) (hb : b < 4294967296) (h : be4 a = be4 b) : a = b := by
  unfold be4 at h
  injection h with h1 h
  injection h with h2 h
  injection h with h3 h
  injection h with h4 h
  have := byt_inj h1; have := byt_inj h2; have := byt_inj h3; have := byt_inj h4
  omega

/-! ### records -/
theorem body_len (p : List UInt8) : (body p).length = 1 + (digs p.length).length + p.length := by simp [body]; omega
theorem rcd_len (p : List UInt8) : (rcd p).length = 1 + (digs p.length).length + p.length + 4 := by simp [rcd, body_len, be4_len]
theorem pick_len (b : List UInt8) : (pick b).1.length ≤ 65536 ∧ (pick b).2.1 ≤ b.length := by
  unfold pick
  split
  · simp
  split
  · simp
  split
  · simp
  split
  · simp
  split
  · simp
  split
  · simp
  · rename_i h1 h2 h3 h4 h5 h6
    constructor
    · simp only [List.length_take]; omega
    · show 1 + (rd (List.drop 1 b)).2.1 + (rd (List.drop 1 b)).1 + 4 ≤ b.length; omega
/-- Whatever begins as a record does: how long it is. -/
theorem pick_of (n : Nat) (m s l : List UInt8) (hn : n < 9223372036854775808) (hm : m.length = n) (hs : s.length = 4) (h : n ≤ 65536) :
    pick (byt 93 :: (digs n ++ (m ++ (s ++ l)))) = if s ≠ be4 (crc (byt 93 :: (digs n ++ m))) then ([], 0, 11) else (m, 1 + (digs n).length + n + 4, 0) := by
  have hd : (byt 93 :: (digs n ++ (m ++ (s ++ l)))).drop 1 = digs n ++ (m ++ (s ++ l)) := rfl
  have hr := rd_digs n (m ++ (s ++ l)) hn
  have e1 : (byt 93 :: (digs n ++ (m ++ (s ++ l)))) = (byt 93 :: (digs n ++ m)) ++ (s ++ l) := by simp
  have e2 : 1 + (digs n).length + n = (byt 93 :: (digs n ++ m)).length := by simp [hm]; omega
  have e3 : (byt 93 :: (digs n ++ (m ++ (s ++ l)))) = (byt 93 :: digs n) ++ (m ++ (s ++ l)) := by simp
  have e4 : 1 + (digs n).length = (byt 93 :: digs n).length := by simp; omega
  unfold pick
  rw [hd, hr]
  simp only
  rw [if_neg (by simp), if_neg (by simp), if_neg (by simp), if_neg (by omega), if_neg (by simp; omega)]
  have t1 : ((byt 93 :: (digs n ++ (m ++ (s ++ l)))).drop (1 + (digs n).length + n)).take 4 = s := by
    rw [e1, e2, List.drop_left, ← hs, List.take_left]
  have t2 : (byt 93 :: (digs n ++ (m ++ (s ++ l)))).take (1 + (digs n).length + n) = byt 93 :: (digs n ++ m) := by
    rw [e1, e2, List.take_left]
  have t3 : ((byt 93 :: (digs n ++ (m ++ (s ++ l)))).drop (1 + (digs n).length)).take n = m := by
    rw [e3, e4, List.drop_left, ← hm, List.take_left]
  rw [t1, t2, t3]
/-- A payload's record is read, whatever stands behind. -/
theorem pick_rcd (p l : List UInt8) (h : p.length ≤ 65536) : pick (rcd p ++ l) = (p, (rcd p).length, 0) := by
  have e : rcd p ++ l = byt 93 :: (digs p.length ++ (p ++ (be4 (crc (body p)) ++ l))) := by simp [rcd, body]
  rw [e, pick_of p.length p _ l (by omega) rfl (be4_len _) h, if_neg (by simp [body]), rcd_len]
/-- One byte of the payload or the sum is another one. -/
theorem pick_turned (p : List UInt8) (hp : p.length ≤ 65536) (i : Nat) (h1 : 1 + (digs p.length).length ≤ i) (h2 : i < (rcd p).length) (z : UInt8) (hz : (rcd p)[i] ≠ z) : pick ((rcd p).set i z) = ([], 0, 11) := by
  have hb := body_len p
  have hl := rcd_len p
  rcases Nat.lt_or_ge i (body p).length with hi | hi
  · -- in the payload
    have hs : (rcd p).set i z = (body p).set i z ++ be4 (crc (body p)) := by
      unfold rcd; rw [List.set_append_left _ _ hi]
    have hz' : (body p)[i] ≠ z := by
      intro e; apply hz; rw [← e]; simp only [rcd]; rw [List.getElem_append_left hi]
    have hb2 : body p = (byt 93 :: digs p.length) ++ p := by simp [body]
    have hk : (byt 93 :: digs p.length).length = 1 + (digs p.length).length := by simp; omega
    have hset : (body p).set i z = byt 93 :: (digs p.length ++ p.set (i - (1 + (digs p.length).length)) z) := by
      rw [hb2, List.set_append_right _ _ (by omega), hk]; simp
    have hc := crc_set (body p) i hi z hz'
    rw [hs]
    rw [hset] at hc ⊢
    have := pick_of p.length (p.set (i - (1 + (digs p.length).length)) z) (be4 (crc (body p))) [] (by omega) (by simp) (be4_len _) hp
    simp only [List.append_nil] at this
    rw [show byt 93 :: (digs p.length ++ p.set (i - (1 + (digs p.length).length)) z) ++ be4 (crc (body p)) = byt 93 :: (digs p.length ++ (p.set (i - (1 + (digs p.length).length)) z ++ be4 (crc (body p)))) by simp, this, if_pos]
    intro e
    exact hc (be4_inj (crc_lt _) (crc_lt _) e).symm
  · -- in the sum
    have hj : i - (body p).length < 4 := by omega
    have hs : (rcd p).set i z = body p ++ (be4 (crc (body p))).set (i - (body p).length) z := by
      unfold rcd; rw [List.set_append_right _ _ hi]
    have hz' : (be4 (crc (body p)))[i - (body p).length]'(by rw [be4_len]; exact hj) ≠ z := by
      intro e; apply hz; rw [← e]; simp only [rcd]; rw [List.getElem_append_right hi]
    rw [hs]
    have := pick_of p.length p ((be4 (crc (body p))).set (i - (body p).length) z) [] (by omega) rfl (by simp [be4_len]) hp
    simp only [List.append_nil] at this
    rw [show body p ++ (be4 (crc (body p))).set (i - (body p).length) z = byt 93 :: (digs p.length ++ (p ++ (be4 (crc (body p))).set (i - (body p).length) z)) by simp [body], this, if_pos]
    intro e
    apply hz'
    have h3 : ((be4 (crc (body p))).set (i - (body p).length) z)[i - (body p).length]? = (be4 (crc (body p)))[i - (body p).length]? := by rw [e]; rfl
    rw [List.getElem?_set_self (by rw [be4_len]; exact hj), List.getElem?_eq_getElem (by rw [be4_len]; exact hj)] at h3
    injection h3 with h3
    exact h3.symm
end Go.Proofs.Ytikbpgcalmndoaa
