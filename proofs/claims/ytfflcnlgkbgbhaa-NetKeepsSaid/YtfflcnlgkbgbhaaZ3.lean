/-
  Texts of this claim, put together: LawRec, RowsSpec, RosLaw, MsgRead.
-/
import Derived.Test.YtfflcnlgkbgbhaaZ2
import Derived.IntWalk
set_option linter.unusedVariables false
set_option linter.unusedSimpArgs false
namespace Go.Proofs.Ytfflcnlgkbgbhaa

theorem rdGo_hi (j : Nat) : ∀ (m : Nat) (l : List UInt8), m < 128 ^ j → j ≤ 8 → rdGo 0 0 (hi m ++ l) = rdGo (hi m).length m l := by
  induction j with
  | zero =>
    intro m l h _
    have : m = 0 := by simpa using h
    subst this
    rw [hi_zero]; rfl
  | succ j ih =>
    intro m l h hj
    rcases Nat.eq_zero_or_pos m with h0 | h0
    · subst h0; rw [hi_zero]; rfl
    have hq : m / 128 < 128 ^ j := Nat.div_lt_of_lt_mul (by rw [Nat.pow_succ] at h; omega)
    rw [hi_pos m h0, List.append_assoc, ih _ _ hq (by omega), List.length_append, List.length_singleton, List.singleton_append]
    have hlen := hi_len j _ hq
    have hx : (byt (128 + m % 128)).toNat = 128 + m % 128 := by rw [byt_toNat]; omega
    rw [rdGo, hx, if_neg, if_neg (by omega), if_neg (by omega)]
    · congr 1; omega
    · rintro ⟨h1, h2⟩
      have : m / 128 = 0 := by
        rcases Nat.eq_zero_or_pos (m / 128) with h3 | h3
        · exact h3
        · rw [hi_pos _ h3, List.length_append, List.length_singleton] at h1; omega
      omega
/-- What is put is read. -/
theorem rd_digs (n : Nat) (l : List UInt8) (h : n < 9223372036854775808) : rd (digs n ++ l) = (n, (digs n).length, 0) := by
  have h9 : n / 128 < 128 ^ 8 := by
    have : (128 : Nat) ^ 8 = 72057594037927936 := by decide
    omega
  have hlen := hi_len 8 _ h9
  have hx : (byt (n % 128)).toNat = n % 128 := by rw [byt_toNat]; omega
  unfold rd digs
  rw [List.append_assoc, rdGo_hi 8 _ _ h9 (Nat.le_refl _), List.singleton_append, List.length_append, List.length_singleton, rdGo, hx, if_neg (by omega), if_neg (by omega), if_pos (by omega)]
  congr 1; omega
theorem byt_self (x : UInt8) : byt x.toNat = x := by
  apply UInt8.toNat.inj; rw [byt_toNat]; have := x.toNat_lt; omega
theorem rdGo_canon (l : List UInt8) : ∀ (i n : Nat), (hi n).length = i → (rdGo i n l).2.2 = 0 → i ≤ (rdGo i n l).2.1 ∧ (rdGo i n l).2.1 - i ≤ l.length ∧ hi n ++ l.take ((rdGo i n l).2.1 - i) = digs (rdGo i n l).1 := by
  induction l with
  | nil => intro i n _ h; simp [rdGo] at h
  | cons x l ih =>
    intro i n hi' he
    have hxl := x.toNat_lt
    unfold rdGo at he ⊢
    split at he
    · simp at he
    rename_i h1
    rw [if_neg h1]
    split at he
    · simp at he
    rename_i h2
    rw [if_neg h2]
    split at he
    · rename_i h3
      rw [if_pos h3]
      refine ⟨by simp, by simp, ?_⟩
      simp only [Nat.add_sub_cancel_left, List.take_succ_cons, List.take_zero]
      unfold digs
      rw [show (128 * n + x.toNat % 128) / 128 = n by omega, show (128 * n + x.toNat % 128) % 128 = x.toNat by omega, byt_self]
    · rename_i h3
      rw [if_neg h3]
      have hn0 : 0 < 128 * n + x.toNat % 128 := by
        rcases Nat.eq_zero_or_pos n with h4 | h4
        · subst h4
          rw [hi_zero] at hi'
          have : x.toNat ≠ 128 := fun h => h1 ⟨hi'.symm, h⟩
          omega
        · omega
      have hh : hi (128 * n + x.toNat % 128) = hi n ++ [x] := by
        rw [hi_pos _ hn0, show (128 * n + x.toNat % 128) / 128 = n by omega, show 128 + (128 * n + x.toNat % 128) % 128 = x.toNat by omega, byt_self]
      obtain ⟨g1, g2, g3⟩ := ih (i + 1) (128 * n + x.toNat % 128) (by rw [hh, List.length_append, hi']; rfl) he
      refine ⟨by omega, by simp only [List.length_cons]; omega, ?_⟩
      rw [hh] at g3
      rw [show (rdGo (i + 1) (128 * n + x.toNat % 128) l).2.1 - i = ((rdGo (i + 1) (128 * n + x.toNat % 128) l).2.1 - (i + 1)) + 1 by omega, List.take_succ_cons]
      rw [← g3]; simp
/-- What is read is what would be put. -/
theorem rd_form (l : List UInt8) (h : (rd l).2.2 = 0) : l.take (rd l).2.1 = digs (rd l).1 := by
  have := (rdGo_canon l 0 0 (by rw [hi_zero]; rfl) h).2.2
  simpa [rd, hi_zero] using this
theorem rd_form_len (l : List UInt8) (h : (rd l).2.2 = 0) : (rd l).2.1 = (digs (rd l).1).length := by
  have h1 := rd_form l h
  have h2 := (rd_bd l).2.1
  rw [← h1, List.length_take]; omega

/-! ### sums -/
theorem crcBit_inj {a b : Nat} (ha : a < 4294967296) (hb : b < 4294967296) (h : crcBit a = crcBit b) : a = b := by
  unfold crcBit at h
  have hx : ∀ c : Nat, ((2 * c - 4294967296) ^^^ 79764919) % 2 = 1 := fun c => by
    rw [Nat.mod_two_eq_one_iff_testBit_zero, Nat.testBit_xor, Nat.testBit_zero, Nat.testBit_zero]
    have : (2 * c - 4294967296) % 2 = 0 := by omega
    rw [this]; rfl
  have ha2 := hx a
  have hb2 := hx b
  split at h <;> split at h
  · have := congrArg (· ^^^ 79764919) h
    simp only [Nat.xor_assoc, Nat.xor_self, Nat.xor_zero] at this
    omega
  · omega
  · omega
  · omega
theorem crcBits_inj (i : Nat) : ∀ {a b : Nat}, a < 4294967296 → b < 4294967296 → crcBits i a = crcBits i b → a = b := by
  induction i with
  | zero => intro a b _ _ h; exact h
  | succ i ih => intro a b ha hb h; exact ih ha hb (crcBit_inj (crcBits_lt ha i) (crcBits_lt hb i) h)
theorem crcByte_inj {a b : Nat} (x : UInt8) (ha : a < 4294967296) (hb : b < 4294967296) (h : crcByte a x = crcByte b x) : a = b := by
  have := congrArg (· ^^^ (x.toNat * 16777216)) (crcBits_inj 8 (crc_in x ha) (crc_in x hb) h)
  simpa only [Nat.xor_assoc, Nat.xor_self, Nat.xor_zero] using this
theorem crcByte_inj2 {a : Nat} {x y : UInt8} (ha : a < 4294967296) (h : crcByte a x = crcByte a y) : x = y := by
  have := congrArg (a ^^^ ·) (crcBits_inj 8 (crc_in x ha) (crc_in y ha) h)
  simp only [← Nat.xor_assoc, Nat.xor_self, Nat.zero_xor] at this
  exact UInt8.toNat.inj (by omega)
theorem crcFrom_inj (l : List UInt8) : ∀ {a b : Nat}, a < 4294967296 → b < 4294967296 → crcFrom a l = crcFrom b l → a = b := by
  induction l with
  | nil => intro a b _ _ h; exact h
  | cons x l ih =>
    intro a b ha hb h
    rw [crcFrom_cons, crcFrom_cons] at h
    exact crcByte_inj x ha hb (ih (crcByte_lt x ha) (crcByte_lt x hb) h)
/-- Of two texts that differ in one byte alone the sums differ. -/
theorem crc_set (l : List UInt8) (i : Nat) (h : i < l.length) (z : UInt8) (hz : l[i] ≠ z) : crc (l.set i z) ≠ crc l := by
  intro e
  have h1 : l = l.take i ++ l[i] :: l.drop (i + 1) := by simp
  have h2 : l.set i z = l.take i ++ z :: l.drop (i + 1) := List.set_eq_take_append_cons_drop.trans (by rw [if_pos h])
  have h3 : crc l = crcFrom (crcByte (crc (l.take i)) l[i]) (l.drop (i + 1)) := by
    conv => lhs; rw [h1]
    unfold crc; rw [crcFrom_append, crcFrom_cons]
  have h4 : crc (l.set i z) = crcFrom (crcByte (crc (l.take i)) z) (l.drop (i + 1)) := by
    rw [h2]; unfold crc; rw [crcFrom_append, crcFrom_cons]
  rw [h3, h4] at e
  have hc := crc_lt (l.take i)
  exact hz (crcByte_inj2 hc (crcFrom_inj _ (crcByte_lt _ hc) (crcByte_lt _ hc) e)).symm
theorem byt_inj {a b : Nat} (h : byt a = byt b) : a % 256 = b % 256 := by
  have := congrArg UInt8.toNat h
  rwa [byt_toNat, byt_toNat] at this
theorem be4_inj {a b : Nat} (ha : a < 4294967296) (hb : b < 4294967296) (h : be4 a = be4 b) : a = b := by
  unfold be4 at h
  injection h with h1 h
  injection h with h2 h
  injection h with h3 h
  injection h with h4 h
  have := byt_inj h1; have := byt_inj h2; have := byt_inj h3; have := byt_inj h4
  omega

/-! ### records -/
theorem body_len (p : List UInt8) : (body p).length = 1 + (digs p.length).length + p.length := by simp [body]; omega
theorem rcd_len (p : List UInt8) : (rcd p).length = 1 + (digs p.length).length + p.length + 4 := by simp [rcd, body_len, be4_len]
theorem pick_len (b : List UInt8) : (pick b).1.length ≤ 65536 ∧ (pick b).2.1 ≤ b.length := by
  unfold pick
  split
  · simp
  split
  · simp
  split
  · simp
  split
  · simp
  split
  · simp
  split
  · simp
  · rename_i h1 h2 h3 h4 h5 h6
    constructor
    · simp only [List.length_take]; omega
    · show 1 + (rd (List.drop 1 b)).2.1 + (rd (List.drop 1 b)).1 + 4 ≤ b.length; omega
/-- Whatever begins as a record does: how long it is. -/
theorem pick_of (n : Nat) (m s l : List UInt8) (hn : n < 9223372036854775808) (hm : m.length = n) (hs : s.length = 4) (h : n ≤ 65536) :
    pick (byt 93 :: (digs n ++ (m ++ (s ++ l)))) = if s ≠ be4 (crc (byt 93 :: (digs n ++ m))) then ([], 0, 11) else (m, 1 + (digs n).length + n + 4, 0) := by
  have hd : (byt 93 :: (digs n ++ (m ++ (s ++ l)))).drop 1 = digs n ++ (m ++ (s ++ l)) := rfl
  have hr := rd_digs n (m ++ (s ++ l)) hn
  have e1 : (byt 93 :: (digs n ++ (m ++ (s ++ l)))) = (byt 93 :: (digs n ++ m)) ++ (s ++ l) := by simp
  have e2 : 1 + (digs n).length + n = (byt 93 :: (digs n ++ m)).length := by simp [hm]; omega
  have e3 : (byt 93 :: (digs n ++ (m ++ (s ++ l)))) = (byt 93 :: digs n) ++ (m ++ (s ++ l)) := by simp
  have e4 : 1 + (digs n).length = (byt 93 :: digs n).length := by simp; omega
  unfold pick
  rw [hd, hr]
  simp only
  rw [if_neg (by simp), if_neg (by simp), if_neg (by simp), if_neg (by omega), if_neg (by simp; omega)]
  have t1 : ((byt 93 :: (digs n ++ (m ++ (s ++ l)))).drop (1 + (digs n).length + n)).take 4 = s := by
    rw [e1, e2, List.drop_left, ← hs, List.take_left]
  have t2 : (byt 93 :: (digs n ++ (m ++ (s ++ l)))).take (1 + (digs n).length + n) = byt 93 :: (digs n ++ m) := by
    rw [e1, e2, List.take_left]
  have t3 : ((byt 93 :: (digs n ++ (m ++ (s ++ l)))).drop (1 + (digs n).length)).take n = m := by
    rw [e3, e4, List.drop_left, ← hm, List.take_left]
  rw [t1, t2, t3]
/-- A payload's record is read, whatever stands behind. -/
theorem pick_rcd (p l : List UInt8) (h : p.length ≤ 65536) : pick (rcd p ++ l) = (p, (rcd p).length, 0) := by
  have e : rcd p ++ l = byt 93 :: (digs p.length ++ (p ++ (be4 (crc (body p)) ++ l))) := by simp [rcd, body]
  rw [e, pick_of p.length p _ l (by omega) rfl (be4_len _) h, if_neg (by simp [body]), rcd_len]
/-- One byte of the payload or the sum is another one. -/
theorem pick_turned (p : List UInt8) (hp : p.length ≤ 65536) (i : Nat) (h1 : 1 + (digs p.length).length ≤ i) (h2 : i < (rcd p).length) (z : UInt8) (hz : (rcd p)[i] ≠ z) : pick ((rcd p).set i z) = ([], 0, 11) := by
  have hb := body_len p
  have hl := rcd_len p
  rcases Nat.lt_or_ge i (body p).length with hi | hi
  · -- in the payload
    have hs : (rcd p).set i z = (body p).set i z ++ be4 (crc (body p)) := by
      unfold rcd; rw [List.set_append_left _ _ hi]
    have hz' : (body p)[i] ≠ z := by
      intro e; apply hz; rw [← e]; simp only [rcd]; rw [List.getElem_append_left hi]
    have hb2 : body p = (byt 93 :: digs p.length) ++ p := by simp [body]
    have hk : (byt 93 :: digs p.length).length = 1 + (digs p.length).length := by simp; omega
    have hset : (body p).set i z = byt 93 :: (digs p.length ++ p.set (i - (1 + (digs p.length).length)) z) := by
      rw [hb2, List.set_append_right _ _ (by omega), hk]; simp
    have hc := crc_set (body p) i hi z hz'
    rw [hs]
    rw [hset] at hc ⊢
    have := pick_of p.length (p.set (i - (1 + (digs p.length).length)) z) (be4 (crc (body p))) [] (by omega) (by simp) (be4_len _) hp
    simp only [List.append_nil] at this
    rw [show byt 93 :: (digs p.length ++ p.set (i - (1 + (digs p.length).length)) z) ++ be4 (crc (body p)) = byt 93 :: (digs p.length ++ (p.set (i - (1 + (digs p.length).length)) z ++ be4 (crc (body p)))) by simp, this, if_pos]
    intro e
    exact hc (be4_inj (crc_lt _) (crc_lt _) e).symm
  · -- in the sum
    have hj : i - (body p).length < 4 := by omega
    have hs : (rcd p).set i z = body p ++ (be4 (crc (body p))).set (i - (body p).length) z := by
      unfold rcd; rw [List.set_append_right _ _ hi]
    have hz' : (be4 (crc (body p)))[i - (body p).length]'(by rw [be4_len]; exact hj) ≠ z := by
      intro e; apply hz; rw [← e]; simp only [rcd]; rw [List.getElem_append_right hi]
    rw [hs]
    have := pick_of p.length p ((be4 (crc (body p))).set (i - (body p).length) z) [] (by omega) rfl (by simp [be4_len]) hp
    simp only [List.append_nil] at this
    rw [show body p ++ (be4 (crc (body p))).set (i - (body p).length) z = byt 93 :: (digs p.length ++ (p ++ (be4 (crc (body p))).set (i - (body p).length) z)) by simp [body], this, if_pos]
    intro e
    apply hz'
    have h3 : ((be4 (crc (body p))).set (i - (body p).length) z)[i - (body p).length]? = (be4 (crc (body p)))[i - (body p).length]? := by rw [e]; rfl
    rw [List.getElem?_set_self (by rw [be4_len]; exact hj), List.getElem?_eq_getElem (by rw [be4_len]; exact hj)] at h3
    injection h3 with h3
    exact h3.symm
end Go.Proofs.Ytfflcnlgkbgbhaa
set_option linter.unusedVariables false
set_option linter.unusedSimpArgs false
namespace Go.Proofs.Ytfflcnlgkbgbhaa

theorem pick_ok (b : List UInt8) (h : (pick b).2.2 = 0) : 6 ≤ (pick b).2.1 ∧ (pick b).2.1 ≤ b.length ∧ (pick b).1.length + 6 ≤ (pick b).2.1 ∧ (pick b).1.length ≤ 65536 ∧ rcd (pick b).1 = b.take (pick b).2.1 := by
  unfold pick at h ⊢
  split at h
  · simp at h
  rename_i h1
  split at h
  · simp at h
  rename_i h2
  split at h
  · rename_i h3; exact absurd h h3
  rename_i h3
  split at h
  · simp at h
  rename_i h4
  split at h
  · simp at h
  rename_i h5
  split at h
  · simp at h
  rename_i h6
  rw [if_neg h1, if_neg h2, if_neg h3, if_neg h4, if_neg h5, if_neg h6]
  have h3' := Classical.not_not.1 h3
  have hf := rd_form (b.drop 1) h3'
  have hfl := rd_form_len (b.drop 1) h3'
  have hd : 0 < (digs (rd (b.drop 1)).1).length := by unfold digs; simp
  have hb := Classical.not_not.1 h2
  have hs := Classical.not_not.1 h6
  generalize rd (b.drop 1) = r at *
  obtain ⟨n, k, e⟩ := r
  simp only at *
  have hm : ((b.drop (1 + k)).take n).length = n := by rw [List.length_take, List.length_drop]; omega
  have hbody : b.take (1 + k + n) = body ((b.drop (1 + k)).take n) := by
    unfold body
    rw [hm, ← hf]
    match b, hb with
    | x :: l, hb =>
      simp only [List.getElem?_cons_zero, Option.some.injEq] at hb
      subst hb
      rw [show 1 + k + n = (k + n) + 1 by omega, List.take_succ_cons, List.drop_succ_cons, List.drop_zero, show 1 + k = k + 1 by omega, List.drop_succ_cons, ← List.take_add]
  have hsplit : b.take (1 + k + n + 4) = b.take (1 + k + n) ++ (b.drop (1 + k + n)).take 4 := List.take_add
  refine ⟨by omega, by omega, by rw [hm]; omega, by rw [hm]; omega, ?_⟩
  rw [hsplit, hs, hbody]; rfl

def rows (b : List UInt8) : List (List UInt8) × Nat :=
  if h : (pick b).2.2 = 0 then ((pick b).1 :: (rows (b.drop (pick b).2.1)).1, (pick b).2.1 + (rows (b.drop (pick b).2.1)).2) else ([], 0)
termination_by b.length
decreasing_by
  all_goals
    have := pick_ok b h
    rw [List.length_drop]
    omega
theorem rows_ok (b : List UInt8) (h : (pick b).2.2 = 0) : rows b = ((pick b).1 :: (rows (b.drop (pick b).2.1)).1, (pick b).2.1 + (rows (b.drop (pick b).2.1)).2) := by rw [rows, dif_pos h]
theorem rows_not (b : List UInt8) (h : (pick b).2.2 ≠ 0) : rows b = ([], 0) := by rw [rows, dif_neg h]
theorem rows_step (b : List UInt8) (k : Nat) (acc : List (List UInt8)) (h : (pick (b.drop k)).2.2 = 0) (h1 : acc ++ (rows (b.drop k)).1 = (rows b).1) (h2 : k + (rows (b.drop k)).2 = (rows b).2) :
    (acc ++ [(pick (b.drop k)).1]) ++ (rows (b.drop (k + (pick (b.drop k)).2.1))).1 = (rows b).1 ∧ (k + (pick (b.drop k)).2.1) + (rows (b.drop (k + (pick (b.drop k)).2.1))).2 = (rows b).2 := by
  rw [rows_ok _ h] at h1 h2
  rw [List.drop_drop] at h1 h2
  constructor
  · rw [← h1]; simp
  · rw [← h2]; omega
theorem rows_end (b : List UInt8) (k : Nat) (acc : List (List UInt8)) (h : (pick (b.drop k)).2.2 ≠ 0) (h1 : acc ++ (rows (b.drop k)).1 = (rows b).1) (h2 : k + (rows (b.drop k)).2 = (rows b).2) :
    (rows b).1 = acc ∧ (rows b).2 = k := by
  rw [rows_not _ h] at h1 h2
  constructor
  · rw [← h1]; simp
  · rw [← h2]; simp
end Go.Proofs.Ytfflcnlgkbgbhaa
set_option linter.unusedVariables false
set_option linter.unusedSimpArgs false
namespace Go.Proofs.Ytfflcnlgkbgbhaa

/-! ### all voters that may be -/
def subs : List Int → List (List Int)
  | [] => [[]]
  | x :: l => subs l ++ (subs l).map (x :: ·)
def rng : Nat → List Int
  | 0 => []
  | n + 1 => (6 - (n : Int)) :: rng n
theorem nil_subs (l : List Int) : [] ∈ subs l := by
  induction l with
  | nil => simp [subs]
  | cons x l ih => simp [subs, ih]
theorem risF_subs (n : Nat) : ∀ l, risF (6 - (n : Int)) l = true → l ∈ subs (rng n) := by
  induction n with
  | zero =>
    intro l h
    cases l with
    | nil => exact nil_subs _
    | cons x l => simp only [risF_cons, Bool.and_eq_true, decide_eq_true_eq] at h; omega
  | succ n ih =>
    intro l h
    cases l with
    | nil => exact nil_subs _
    | cons x l =>
      simp only [risF_cons, Bool.and_eq_true, decide_eq_true_eq] at h
      simp only [rng, subs, List.mem_append, List.mem_map]
      by_cases hx : x = 6 - (n : Int)
      · exact .inr ⟨l, ih l (hx ▸ h.2), by rw [hx]⟩
      · refine .inl (ih _ ?_)
        simp only [risF_cons, Bool.and_eq_true, decide_eq_true_eq]
        exact ⟨⟨by omega, h.1.2⟩, h.2⟩
theorem chk_subs {l : List Int} (h : chk l = true) : l ∈ subs (rng 7) := risF_subs 7 l (by simp only [chk, Bool.and_eq_true] at h; exact h.1)
theorem chk_len {l : List Int} (h : chk l = true) : 0 < l.length := by
  cases l with
  | nil => cases h
  | cons x l => simp
theorem len_subs : ∀ l ∈ subs (rng 7), l.length ≤ 7 := by decide +kernel
theorem filt_subs : ∀ l ∈ subs (rng 7), l = (rng 7).filter (hasB l) := by decide +kernel
theorem chk_filt {l : List Int} (h : chk l = true) : l = (rng 7).filter (hasB l) := filt_subs l (chk_subs h)
theorem chk_le7 {l : List Int} (h : chk l = true) : l.length ≤ 7 := len_subs l (chk_subs h)
theorem mem_rng7 {n : Int} : n ∈ rng 7 ↔ 0 ≤ n ∧ n ≤ 6 := by
  simp only [rng, List.mem_cons, List.not_mem_nil, or_false]; omega
theorem chk_mem {l : List Int} (h : chk l = true) {n : Int} (hn : n ∈ l) : 0 ≤ n ∧ n ≤ 6 := by
  have := chk_filt h
  rw [this] at hn
  exact mem_rng7.1 (List.mem_filter.1 hn).1

/-! ### counting -/
def cnt (p : Int → Bool) (l : List Int) : Nat := (l.filter p).length
theorem cnt_nil (p : Int → Bool) : cnt p [] = 0 := rfl
theorem cnt_cons (p : Int → Bool) (x : Int) (l : List Int) : cnt p (x :: l) = cnt p l + (if p x = true then 1 else 0) := by
  unfold cnt; rw [List.filter_cons]; split <;> simp_all
theorem cnt_append (p : Int → Bool) (l m : List Int) : cnt p (l ++ m) = cnt p l + cnt p m := by simp [cnt]
theorem cnt_le (p : Int → Bool) (l : List Int) : cnt p l ≤ l.length := List.length_filter_le _ _
theorem cnt_chk {l : List Int} (h : chk l = true) (p : Int → Bool) : cnt p l = cnt (fun n => hasB l n && p n) (rng 7) := by
  have e := chk_filt h
  unfold cnt
  conv => lhs; rw [e]
  rw [List.filter_filter]
  congr 2
  funext n
  rw [Bool.and_comm]
theorem cnt_len {l : List Int} (h : chk l = true) : l.length = cnt (hasB l) (rng 7) := by
  have e := chk_filt h
  exact (congrArg List.length e)

/-- How many of l are not in s. -/
def lacksN (s l : List Int) : Nat := cnt (fun x => !hasB s x) l
/-- Are more than half of the voters among some? -/
def majB (voters some : List Int) : Bool := chk voters && decide (voters.length < 2 * cnt (hasB some) voters)
def mayE (old next : List Int) : Int :=
  if chk old = true ∧ chk next = true then (if lacksN old next + lacksN next old = 1 then 0 else 101) else 100
/-- How many of 0 to 6 are in one of both alone. -/
def unlike (old next : List Int) : Nat := cnt (fun n => hasB old n != hasB next n) (rng 7)

theorem unlike_eq {old next : List Int} (h1 : chk old = true) (h2 : chk next = true) : unlike old next = lacksN old next + lacksN next old := by
  unfold unlike lacksN
  rw [cnt_chk h2, cnt_chk h1]
  generalize rng 7 = l
  induction l with
  | nil => rfl
  | cons x l ih =>
    simp only [cnt_cons]
    cases hasB old x <;> cases hasB next x <;> simp <;> omega

/-! ### two majorities meet -/
theorem meets {old next some others : List Int} (hm : mayE old next = 0 ∨ (old = next ∧ chk old = true)) (h1 : majB old some = true) (h2 : majB next others = true) :
    ∃ n ∈ some, hasB others n = true ∧ (hasB old n = true ∨ hasB next n = true) := by
  simp only [majB, Bool.and_eq_true, decide_eq_true_eq] at h1 h2
  obtain ⟨c1, m1⟩ := h1
  obtain ⟨c2, m2⟩ := h2
  have hu : unlike old next ≤ 1 := by
    rcases hm with hm | ⟨rfl, _⟩
    · unfold mayE at hm
      rw [if_pos ⟨c1, c2⟩] at hm
      split at hm
      · rw [unlike_eq c1 c2]; omega
      · omega
    · have : unlike old old = 0 := by simp [unlike, cnt]
      omega
  rw [cnt_len c1, cnt_chk c1] at m1
  rw [cnt_len c2, cnt_chk c2] at m2
  unfold unlike at hu
  false_or_by_contra
  rename_i hne
  have hall : ∀ n, hasB some n = true → hasB others n = true → hasB old n = false ∧ hasB next n = false := by
    intro n ha hb
    constructor
    · cases hc : hasB old n
      · rfl
      · exact absurd ⟨n, by simpa [hasB] using ha, hb, .inl hc⟩ hne
    · cases hc : hasB next n
      · rfl
      · exact absurd ⟨n, by simpa [hasB] using ha, hb, .inr hc⟩ hne
  clear hne hm c1 c2
  have key : ∀ l : List Int, 2 * cnt (fun n => hasB old n && hasB some n) l + 2 * cnt (fun n => hasB next n && hasB others n) l ≤ cnt (hasB old) l + cnt (hasB next) l + cnt (fun n => hasB old n != hasB next n) l := by
    intro l
    induction l with
    | nil => simp [cnt_nil]
    | cons x l ih =>
      have hx := hall x
      simp only [cnt_cons]
      revert hx
      cases hasB old x <;> cases hasB next x <;> cases hasB some x <;> cases hasB others x <;> simp <;> omega
  have := key (rng 7)
  omega

/-! ### what is agreed -/
def insI (x : Int) : List Int → List Int
  | [] => [x]
  | y :: l => if x ≤ y then x :: y :: l else y :: insI x l
def isort : List Int → List Int
  | [] => []
  | x :: l => insI x (isort l)
theorem insI_perm (x : Int) (l : List Int) : (insI x l).Perm (x :: l) := by
  induction l with
  | nil => exact List.Perm.refl _
  | cons y l ih =>
    simp only [insI]
    split
    · exact List.Perm.refl _
    · exact (List.Perm.cons y ih).trans (List.Perm.swap x y l)
theorem isort_perm (l : List Int) : (isort l).Perm l := by
  induction l with
  | nil => exact List.Perm.refl _
  | cons x l ih => exact (insI_perm x _).trans (List.Perm.cons x ih)
abbrev Srt (l : List Int) : Prop := l.Pairwise (· ≤ ·)
theorem insI_srt (x : Int) (l : List Int) (h : Srt l) : Srt (insI x l) := by
  induction l with
  | nil => simp [insI, Srt]
  | cons y l ih =>
    simp only [insI]
    have hy := List.pairwise_cons.1 h
    split
    · rename_i hxy
      refine List.pairwise_cons.2 ⟨fun z hz => ?_, h⟩
      rcases List.mem_cons.1 hz with rfl | hz
      · exact hxy
      · have := hy.1 z hz; omega
    · rename_i hxy
      refine List.pairwise_cons.2 ⟨fun z hz => ?_, ih hy.2⟩
      have := (insI_perm x l).mem_iff.1 hz
      rcases List.mem_cons.1 this with rfl | hz
      · omega
      · exact hy.1 z hz
theorem isort_srt (l : List Int) : Srt (isort l) := by
  induction l with
  | nil => exact List.Pairwise.nil
  | cons x l ih => exact insI_srt x _ ih
theorem srt_unique : ∀ {l m : List Int}, Srt l → Srt m → l.Perm m → l = m := by
  intro l
  induction l with
  | nil => intro m _ _ hp; exact (List.nil_perm.1 hp).symm
  | cons x l ih =>
    intro m hl hm hp
    cases m with
    | nil => exact absurd hp.symm (by simp)
    | cons y m =>
      have h1 := List.pairwise_cons.1 hl
      have h2 := List.pairwise_cons.1 hm
      have hxy : x = y := by
        have hx : x ∈ y :: m := hp.mem_iff.1 (by simp)
        have hy : y ∈ x :: l := hp.mem_iff.2 (by simp)
        rcases List.mem_cons.1 hx with h | hx
        · exact h
        · rcases List.mem_cons.1 hy with h | hy
          · exact h.symm
          · have := h1.1 y hy; have := h2.1 x hx; omega
      subst hxy
      rw [ih h1.2 h2.2 (List.perm_cons x |>.1 hp)]
theorem srt_isort {l m : List Int} (hs : Srt m) (hp : m.Perm l) : m = isort l := srt_unique hs (isort_srt l) (hp.trans (isort_perm l).symm)
theorem isort_len (l : List Int) : (isort l).length = l.length := (isort_perm l).length_eq

/-- What node n has reached. -/
def rch (reached : List Int) (n : Int) : Int := if n < reached.length then max (reached.getD n.toNat 0) 0 else 0
def agr (voters reached : List Int) : Int :=
  if chk voters = true then (isort (voters.map (rch reached))).getD ((voters.length - 1) / 2) 0 else 0
theorem rch_nonneg (r : List Int) (n : Int) : 0 ≤ rch r n := by unfold rch; split <;> omega

/-- How many of a sorted list reach x, told by the one in the middle. -/
theorem srt_mid (s : List Int) (hs : Srt s) (hp : 0 < s.length) (x : Int) : s.length < 2 * cnt (fun y => decide (x ≤ y)) s ↔ x ≤ s.getD ((s.length - 1) / 2) 0 := by
  have hm : (s.length - 1) / 2 < s.length := by omega
  generalize hmm : (s.length - 1) / 2 = m at hm ⊢
  have e1 : s = s.take m ++ s[m] :: s.drop (m + 1) := by
    conv => lhs; rw [← List.take_append_drop m s]
    rw [List.drop_eq_getElem_cons hm]
  have hg : s.getD m 0 = s[m] := by simp [List.getD, hm]
  rw [hg]
  have hc : cnt (fun y => decide (x ≤ y)) s = cnt (fun y => decide (x ≤ y)) (s.take m) + (cnt (fun y => decide (x ≤ y)) (s.drop (m + 1)) + if x ≤ s[m] then 1 else 0) := by
    conv => lhs; rw [e1]
    rw [cnt_append, cnt_cons]
    simp
  have hlt : (s.take m).length = m := by rw [List.length_take]; omega
  have hld : (s.drop (m + 1)).length = s.length - (m + 1) := List.length_drop
  have b1 := cnt_le (fun y => decide (x ≤ y)) (s.take m)
  have b2 := cnt_le (fun y => decide (x ≤ y)) (s.drop (m + 1))
  have hs' := hs
  unfold Srt at hs'
  rw [e1] at hs'
  obtain ⟨_, hs2, hs3⟩ := List.pairwise_append.1 hs'
  have hs4 := (List.pairwise_cons.1 hs2).1
  constructor
  · intro h
    false_or_by_contra
    rename_i hx
    have h0 : cnt (fun y => decide (x ≤ y)) (s.take m) = 0 := by
      unfold cnt
      rw [List.length_eq_zero_iff, List.filter_eq_nil_iff]
      intro y hy
      have := hs3 y hy s[m] List.mem_cons_self
      simp; omega
    rw [hc, h0, if_neg hx] at h
    omega
  · intro hx
    have h0 : cnt (fun y => decide (x ≤ y)) (s.drop (m + 1)) = (s.drop (m + 1)).length := by
      unfold cnt
      rw [List.filter_eq_self.2]
      intro y hy
      have := hs4 y hy
      simp; omega
    rw [hc, h0, if_pos hx]
    omega
theorem cnt_perm {p : Int → Bool} {l m : List Int} (h : l.Perm m) : cnt p l = cnt p m := (h.filter p).length_eq
theorem cnt_map (p : Int → Bool) (f : Int → Int) (l : List Int) : cnt p (l.map f) = cnt (fun n => p (f n)) l := by
  unfold cnt; rw [List.filter_map, List.length_map]; rfl
/-- A majority has reached x just where x is not more than what is agreed. -/
theorem agr_iff {voters reached : List Int} (h : chk voters = true) (x : Int) : voters.length < 2 * cnt (fun n => decide (x ≤ rch reached n)) voters ↔ x ≤ agr voters reached := by
  unfold agr
  rw [if_pos h]
  have hp := isort_perm (voters.map (rch reached))
  have h1 := srt_mid (isort (voters.map (rch reached))) (isort_srt _) (by rw [isort_len, List.length_map]; exact chk_len h) x
  rw [isort_len, List.length_map, cnt_perm hp, cnt_map] at h1
  exact h1
theorem agr_mem {voters reached : List Int} (h : chk voters = true) : ∃ n ∈ voters, agr voters reached = rch reached n := by
  unfold agr
  rw [if_pos h]
  have hl := chk_len h
  have hlt : (voters.length - 1) / 2 < (isort (voters.map (rch reached))).length := by rw [isort_len, List.length_map]; omega
  have hm : (isort (voters.map (rch reached))).getD ((voters.length - 1) / 2) 0 ∈ voters.map (rch reached) := by
    rw [← (isort_perm _).mem_iff]
    rw [List.getD_eq_getElem?_getD, List.getElem?_eq_getElem hlt]
    exact List.getElem_mem _
  obtain ⟨n, hn, e⟩ := List.mem_map.1 hm
  exact ⟨n, hn, e.symm⟩
theorem agr_nonneg (voters reached : List Int) : 0 ≤ agr voters reached := by
  by_cases h : chk voters = true
  · obtain ⟨n, _, e⟩ := agr_mem (reached := reached) h
    rw [e]; exact rch_nonneg _ _
  · unfold agr; rw [if_neg h]; exact Int.le_refl _
/-- A majority among those numbers that reached x. -/
theorem maj_iff {voters reached some : List Int} (h : chk voters = true) (x : Int) (hx : 0 < x)
    (hs : ∀ n : Int, 0 ≤ n → n ≤ 6 → (hasB some n = true ↔ n < reached.length ∧ x ≤ reached.getD n.toNat 0)) : majB voters some = true ↔ x ≤ agr voters reached := by
  rw [← agr_iff h x]
  unfold majB
  rw [h, Bool.true_and, decide_eq_true_eq]
  have : cnt (hasB some) voters = cnt (fun n => decide (x ≤ rch reached n)) voters := by
    unfold cnt
    congr 1
    apply List.filter_congr
    intro n hn
    obtain ⟨n0, n6⟩ := chk_mem h hn
    have := hs n n0 n6
    rw [Bool.eq_iff_iff, this, decide_eq_true_eq]
    unfold rch
    split
    · rename_i hl; constructor
      · intro hh; omega
      · intro hh; exact ⟨hl, by omega⟩
    · rename_i hl; constructor
      · intro hh; exact absurd hh.1 hl
      · intro hh; omega
  rw [this]
/-- More reached, no less agreed. -/
theorem agr_mono {voters r r' : List Int} (h : chk voters = true) (hle : ∀ n, rch r n ≤ rch r' n) : agr voters r ≤ agr voters r' := by
  have h0 := (agr_iff (reached := r) h _).2 (Int.le_refl _)
  rw [← agr_iff h]
  generalize agr voters r = x at h0 ⊢
  have key : ∀ l : List Int, cnt (fun n => decide (x ≤ rch r n)) l ≤ cnt (fun n => decide (x ≤ rch r' n)) l := by
    intro l
    induction l with
    | nil => exact Nat.le_refl _
    | cons n l ih =>
      simp only [cnt_cons, decide_eq_true_eq]
      have := hle n
      by_cases h1 : x ≤ rch r n
      · have h2 : x ≤ rch r' n := by omega
        simp only [h1, h2, if_true]; omega
      · simp only [h1, if_false]; omega
  have := key voters
  omega

/-! ### one more, one less -/
def joinL (l : List Int) (n : Int) : List Int := if hasB l n = true then l else isort (l ++ [n])
def leaveL (l : List Int) (n : Int) : List Int := l.filter (fun x => decide (x ≠ n))
def backB (l : List Int) (n : Int) : Bool :=
  if hasB l n = true then
    let less := leaveL l n
    !hasB less n && eqL (joinL less n) l && (decide (less.length = 0) || decide (mayE l less = 0) && decide (mayE less l = 0))
  else
    let more := joinL l n
    hasB more n && decide (mayE l more = 0) && decide (mayE more l = 0) && eqL (leaveL more n) l
theorem back_subs : ∀ l ∈ subs (rng 7), chk l = true → ∀ n ∈ rng 7, backB l n = true := by decide +kernel
theorem back {l : List Int} {n : Int} (h : chk l = true) (h0 : 0 ≤ n) (h6 : n ≤ 6) : backB l n = true := back_subs l (chk_subs h) h n (mem_rng7.2 ⟨h0, h6⟩)
end Go.Proofs.Ytfflcnlgkbgbhaa
set_option linter.unusedVariables false
set_option linter.unusedSimpArgs false
namespace Go.Proofs.Ytfflcnlgkbgbhaa
open Go.RowKit

/-- What is left to read. -/
def ScS.rest (s : ScS) : List UInt8 := s.b.drop s.at_
def ScS.in_ (s : ScS) : Prop := s.at_ ≤ s.b.length
theorem ScS.in_number {s : ScS} (h : s.in_) : s.number.2.in_ := by
  unfold ScS.number ScS.in_
  split
  · have := rd_bd (s.b.drop s.at_)
    rw [List.length_drop] at this
    unfold ScS.in_ at h
    show s.at_ + _ ≤ s.b.length
    omega
  · exact h
theorem ScS.in_text {s : ScS} (h : s.in_) (most : Int) : (s.text most).2.in_ := by
  unfold ScS.text
  split
  · split
    · split
      · exact h
      · split
        · exact h
        · rename_i h3
          show _ ≤ s.b.length
          simp only at *
          omega
    · exact h
  · exact h
theorem ScS.in_flag {s : ScS} (h : s.in_) : s.flag.2.in_ := by
  have h1 := rd_bd (s.b.drop s.at_)
  rw [List.length_drop] at h1
  unfold ScS.in_ at h
  unfold ScS.flag
  split
  · split
    · split
      · exact h
      · show s.at_ + _ ≤ s.b.length
        omega
    · exact h
  · exact h
/-- A number that was read stood there. -/
theorem numC {s : ScS} (hs : s.in_) (h : s.number.2.e = 0) : s.e = 0 ∧ s.rest = digs s.number.1 ++ s.number.2.rest := by
  unfold ScS.number at h ⊢
  by_cases he : s.e = 0
  · rw [if_pos he] at h ⊢
    refine ⟨he, ?_⟩
    have hf := rd_form (s.b.drop s.at_) h
    show s.b.drop s.at_ = digs (rd (s.b.drop s.at_)).1 ++ s.b.drop (s.at_ + (rd (s.b.drop s.at_)).2.1)
    rw [← hf, ← List.drop_drop, List.take_append_drop]
  · rw [if_neg he] at h
    exact absurd h he
theorem textC {s : ScS} (hs : s.in_) (most : Int) (h : (s.text most).2.e = 0) : s.e = 0 ∧ s.rest = digs (s.text most).1.length ++ ((s.text most).1 ++ (s.text most).2.rest) ∧ (s.text most).1.length ≤ most.toNat := by
  have h1 := rd_bd (s.b.drop s.at_)
  rw [List.length_drop] at h1
  unfold ScS.in_ at hs
  unfold ScS.text at h ⊢
  by_cases he : s.e = 0
  · rw [if_pos he] at h ⊢
    by_cases h2 : (rd (s.b.drop s.at_)).2.2 = 0
    · rw [if_pos h2] at h ⊢
      by_cases h3 : most.toNat < (rd (s.b.drop s.at_)).1
      · rw [if_pos h3] at h; cases h
      · rw [if_neg h3] at h ⊢
        by_cases h4 : s.b.length < s.at_ + (rd (s.b.drop s.at_)).2.1 + (rd (s.b.drop s.at_)).1
        · rw [if_pos h4] at h; cases h
        · rw [if_neg h4]
          have hf := rd_form (s.b.drop s.at_) h2
          have hl : ((s.b.drop (s.at_ + (rd (s.b.drop s.at_)).2.1)).take (rd (s.b.drop s.at_)).1).length = (rd (s.b.drop s.at_)).1 := by rw [List.length_take, List.length_drop]; omega
          refine ⟨he, ?_, by show List.length (List.take _ _) ≤ _; rw [hl]; omega⟩
          show s.b.drop s.at_ = digs (List.length (List.take _ _)) ++ (List.take _ _ ++ s.b.drop (s.at_ + (rd (s.b.drop s.at_)).2.1 + (rd (s.b.drop s.at_)).1))
          rw [hl, ← hf, ← List.drop_drop (j := s.at_ + (rd (s.b.drop s.at_)).2.1), List.take_append_drop, ← List.drop_drop (j := s.at_), List.take_append_drop]
    · rw [if_neg h2] at h; exact absurd h h2
  · rw [if_neg he] at h; exact absurd h he
theorem flagC {s : ScS} (hs : s.in_) (h : s.flag.2.e = 0) : s.e = 0 ∧ s.rest = digs s.flag.1.toNat ++ s.flag.2.rest := by
  unfold ScS.flag at h ⊢
  by_cases he : s.e = 0
  · rw [if_pos he] at h ⊢
    by_cases h2 : (rd (s.b.drop s.at_)).2.2 = 0
    · rw [if_pos h2] at h ⊢
      by_cases h3 : 1 < (rd (s.b.drop s.at_)).1
      · rw [if_pos h3] at h; cases h
      · rw [if_neg h3]
        refine ⟨he, ?_⟩
        have hf := rd_form (s.b.drop s.at_) h2
        show s.b.drop s.at_ = digs (decide ((rd (s.b.drop s.at_)).1 = 1)).toNat ++ s.b.drop (s.at_ + (rd (s.b.drop s.at_)).2.1)
        have h4 : (decide ((rd (s.b.drop s.at_)).1 = 1)).toNat = (rd (s.b.drop s.at_)).1 := by
          rcases (show (rd (s.b.drop s.at_)).1 = 0 ∨ (rd (s.b.drop s.at_)).1 = 1 by omega) with h5 | h5 <;> rw [h5] <;> rfl
        rw [h4, ← hf, ← List.drop_drop, List.take_append_drop]
    · rw [if_neg h2] at h; exact absurd h h2
  · rw [if_neg he] at h; exact absurd h he

/-! ### what was put is read -/
/-- The state in which l is left to read. -/
structure St (s : ScS) (l : List UInt8) : Prop where
  e : s.e = 0
  in_ : s.in_
  rest : s.rest = l
theorem drop_of_append {α : Type} {b x l : List α} {a : Nat} (h : b.drop a = x ++ l) : b.drop (a + x.length) = l := by
  rw [← List.drop_drop, h, List.drop_left]
theorem numB {s : ScS} {n : Nat} {l : List UInt8} (h : St s (digs n ++ l)) (hn : n < 9223372036854775808) : ∃ s', s.number = (n, s') ∧ St s' l := by
  have hr : s.b.drop s.at_ = digs n ++ l := h.rest
  have hrd := rd_digs n l hn
  have hin := h.in_
  unfold ScS.in_ at hin
  have hlen := congrArg List.length hr
  rw [List.length_drop, List.length_append] at hlen
  refine ⟨⟨s.b, s.at_ + (digs n).length, 0⟩, ?_, rfl, ?_, drop_of_append hr⟩
  · unfold ScS.number
    rw [if_pos h.e, hr, hrd]
  · show s.at_ + (digs n).length ≤ s.b.length
    omega
theorem textB {s : ScS} {t l : List UInt8} (most : Int) (h : St s (digs t.length ++ (t ++ l))) (hn : t.length < 9223372036854775808) (hm : t.length ≤ most.toNat) : ∃ s', s.text most = (t, s') ∧ St s' l := by
  have hr : s.b.drop s.at_ = digs t.length ++ (t ++ l) := h.rest
  have hrd := rd_digs t.length (t ++ l) hn
  have hin := h.in_
  unfold ScS.in_ at hin
  have hlen := congrArg List.length hr
  rw [List.length_drop, List.length_append, List.length_append] at hlen
  have h2 := drop_of_append hr
  refine ⟨⟨s.b, s.at_ + (digs t.length).length + t.length, 0⟩, ?_, rfl, ?_, drop_of_append h2⟩
  · unfold ScS.text
    rw [if_pos h.e, hr, hrd]
    simp only [if_true]
    rw [if_neg (by omega), if_neg (by omega), h2, List.take_left]
  · show _ ≤ s.b.length
    simp only
    omega
theorem flagB {s : ScS} {b : Bool} {l : List UInt8} (h : St s (digs b.toNat ++ l)) : ∃ s', s.flag = (b, s') ∧ St s' l := by
  have hr : s.b.drop s.at_ = digs b.toNat ++ l := h.rest
  have hrd := rd_digs b.toNat l (by cases b <;> decide)
  have hin := h.in_
  unfold ScS.in_ at hin
  have hlen := congrArg List.length hr
  rw [List.length_drop, List.length_append] at hlen
  refine ⟨⟨s.b, s.at_ + (digs b.toNat).length, 0⟩, ?_, rfl, ?_, drop_of_append hr⟩
  · unfold ScS.flag
    rw [if_pos h.e, hr, hrd]
    cases b <;> simp
  · show s.at_ + _ ≤ s.b.length
    omega

/-! ### a message -/
def entIx (ix : Int) (i : Nat) : Int := wrap64 (wrap64 (ix + 1) + (i : Int))
/-- Entries, read till an error (st: whether an error stops it). -/
def rdEnts (st : Bool) (ix : Int) (many : Nat) : Nat → Nat → ScS → List EntS × ScS
  | 0, _, s => ([], s)
  | f + 1, i, s => if i < many ∧ (st = true → s.e = 0) then
      (⟨entIx ix i, (s.number.1 : Int), (s.number.2.text 4096).1⟩ :: (rdEnts st ix many f (i + 1) (s.number.2.text 4096).2).1, (rdEnts st ix many f (i + 1) (s.number.2.text 4096).2).2)
    else ([], s)
def rdNums (st : Bool) (many : Nat) : Nat → Nat → ScS → List Int × ScS
  | 0, _, s => ([], s)
  | f + 1, i, s => if i < many ∧ (st = true → s.e = 0) then ((s.number.1 : Int) :: (rdNums st many f (i + 1) s.number.2).1, (rdNums st many f (i + 1) s.number.2).2) else ([], s)
def nxt : Nat → ScS → ScS
  | 0, s => s
  | k + 1, s => nxt k s.number.2
/-- The message that stands there; how many entries, voters it tells; what is left. -/
def rdMsg (st : Bool) (fv : Nat) (s : ScS) : MsgS × Nat × Nat × ScS :=
  let s1 := s.number.2
  let s2 := s1.number.2
  let s3 := s2.number.2
  let s4 := s3.number.2
  let s5 := s4.number.2
  let s6 := s5.number.2
  let s7 := s6.number.2
  let s8 := s7.number.2
  let y := s8.flag
  let d := y.2.flag
  let c := d.2.number
  let es := rdEnts st (s4.number.1 : Int) c.1 9 0 c.2
  let v := es.2.number
  let vs := rdNums st v.1 fv 0 v.2
  let t := vs.2.text 512
  (⟨s.number.1, s1.number.1, s2.number.1, s3.number.1, s4.number.1, s5.number.1, s6.number.1, s7.number.1, y.1, d.1, es.1, vs.1, t.1⟩, c.1, v.1, t.2)

theorem rdEnts_in {st : Bool} {ix : Int} {many : Nat} : ∀ (f i : Nat) (s : ScS), s.in_ → (rdEnts st ix many f i s).2.in_
  | 0, _, s, h => h
  | f + 1, i, s, h => by
    unfold rdEnts
    split
    · exact rdEnts_in f (i + 1) _ (ScS.in_text (ScS.in_number h) _)
    · exact h
theorem rdNums_in {st : Bool} {many : Nat} : ∀ (f i : Nat) (s : ScS), s.in_ → (rdNums st many f i s).2.in_
  | 0, _, s, h => h
  | f + 1, i, s, h => by
    unfold rdNums
    split
    · exact rdNums_in f (i + 1) _ (ScS.in_number h)
    · exact h
theorem rdEntsC {st : Bool} {ix : Int} {many : Nat} : ∀ (f i : Nat) (s : ScS), s.in_ → (rdEnts st ix many f i s).2.e = 0 → s.e = 0 ∧ s.rest = encEnts (rdEnts st ix many f i s).1 ++ (rdEnts st ix many f i s).2.rest
  | 0, _, s, _, h => ⟨h, rfl⟩
  | f + 1, i, s, hs, h => by
    unfold rdEnts at h ⊢
    by_cases hc : i < many ∧ (st = true → s.e = 0)
    · rw [if_pos hc] at h ⊢
      obtain ⟨h1, h2⟩ := rdEntsC f (i + 1) _ (ScS.in_text (ScS.in_number hs) _) h
      obtain ⟨h3, h4, _⟩ := textC (ScS.in_number hs) 4096 h1
      obtain ⟨h5, h6⟩ := numC hs h3
      refine ⟨h5, ?_⟩
      rw [h6, h4, h2]
      simp only [encEnts, Int.toNat_natCast, List.append_assoc]
    · rw [if_neg hc] at h ⊢
      exact ⟨h, rfl⟩
theorem rdNumsC {st : Bool} {many : Nat} : ∀ (f i : Nat) (s : ScS), s.in_ → (rdNums st many f i s).2.e = 0 → s.e = 0 ∧ s.rest = encNums (rdNums st many f i s).1 ++ (rdNums st many f i s).2.rest
  | 0, _, s, _, h => ⟨h, rfl⟩
  | f + 1, i, s, hs, h => by
    unfold rdNums at h ⊢
    by_cases hc : i < many ∧ (st = true → s.e = 0)
    · rw [if_pos hc] at h ⊢
      obtain ⟨h1, h2⟩ := rdNumsC f (i + 1) _ (ScS.in_number hs) h
      obtain ⟨h5, h6⟩ := numC hs h1
      refine ⟨h5, ?_⟩
      rw [h6, h2]
      simp only [encNums, Int.toNat_natCast, List.append_assoc]
    · rw [if_neg hc] at h ⊢
      exact ⟨h, rfl⟩
theorem encNums8 (a b c d e f g h : Nat) (r : List UInt8) : encNums [(a : Int), b, c, d, e, f, g, h] ++ r = digs a ++ (digs b ++ (digs c ++ (digs d ++ (digs e ++ (digs f ++ (digs g ++ (digs h ++ r))))))) := by
  simp only [encNums, Int.toNat_natCast, List.append_assoc, List.append_nil, List.nil_append]
theorem numC' {s s' : ScS} {a : Nat} (hs : s.in_) (q : s.number = (a, s')) : s'.in_ ∧ (s'.e = 0 → s.e = 0 ∧ s.rest = digs a ++ s'.rest) := by
  have h1 := ScS.in_number hs
  have h2 := numC hs
  rw [q] at h1 h2
  exact ⟨h1, h2⟩
theorem flagC' {s s' : ScS} {a : Bool} (hs : s.in_) (q : s.flag = (a, s')) : s'.in_ ∧ (s'.e = 0 → s.e = 0 ∧ s.rest = digs a.toNat ++ s'.rest) := by
  have h1 := ScS.in_flag hs
  have h2 := flagC hs
  rw [q] at h1 h2
  exact ⟨h1, h2⟩
theorem textC' {s s' : ScS} {t : List UInt8} {most : Int} (hs : s.in_) (q : s.text most = (t, s')) : s'.in_ ∧ (s'.e = 0 → s.e = 0 ∧ s.rest = digs t.length ++ (t ++ s'.rest) ∧ t.length ≤ most.toNat) := by
  have h1 := ScS.in_text hs most
  have h2 := textC hs most
  rw [q] at h1 h2
  exact ⟨h1, h2⟩
theorem entsC' {st : Bool} {ix : Int} {many f i : Nat} {s s' : ScS} {l : List EntS} (hs : s.in_) (q : rdEnts st ix many f i s = (l, s')) : s'.in_ ∧ (s'.e = 0 → s.e = 0 ∧ s.rest = encEnts l ++ s'.rest) := by
  have h1 := rdEnts_in (st := st) (ix := ix) (many := many) f i s hs
  have h2 := rdEntsC (st := st) (ix := ix) (many := many) f i s hs
  rw [q] at h1 h2
  exact ⟨h1, h2⟩
theorem numsC' {st : Bool} {many f i : Nat} {s s' : ScS} {l : List Int} (hs : s.in_) (q : rdNums st many f i s = (l, s')) : s'.in_ ∧ (s'.e = 0 → s.e = 0 ∧ s.rest = encNums l ++ s'.rest) := by
  have h1 := rdNums_in (st := st) (many := many) f i s hs
  have h2 := rdNumsC (st := st) (many := many) f i s hs
  rw [q] at h1 h2
  exact ⟨h1, h2⟩
theorem asPair {α β : Type} (x : α × β) : ∃ a b, x = (a, b) := ⟨x.1, x.2, rfl⟩
/-- A message's reading, step by step. -/
theorem rdMsg_steps (st : Bool) (fv : Nat) (s : ScS) : ∃ a0 s1 a1 s2 a2 s3 a3 s4 a4 s5 a5 s6 a6 s7 a7 s8 y sy d sd c sc es se v sv vs svs t st',
    s.number = (a0, s1) ∧ s1.number = (a1, s2) ∧ s2.number = (a2, s3) ∧ s3.number = (a3, s4) ∧ s4.number = (a4, s5) ∧ s5.number = (a5, s6) ∧ s6.number = (a6, s7) ∧ s7.number = (a7, s8) ∧ s8.flag = (y, sy) ∧ sy.flag = (d, sd) ∧ sd.number = (c, sc) ∧
    rdEnts st (a4 : Int) c 9 0 sc = (es, se) ∧ se.number = (v, sv) ∧ rdNums st v fv 0 sv = (vs, svs) ∧ svs.text 512 = (t, st') ∧
    rdMsg st fv s = (⟨a0, a1, a2, a3, a4, a5, a6, a7, y, d, es, vs, t⟩, c, v, st') := by
  obtain ⟨a0, s1, q0⟩ := asPair s.number
  obtain ⟨a1, s2, q1⟩ := asPair s1.number
  obtain ⟨a2, s3, q2⟩ := asPair s2.number
  obtain ⟨a3, s4, q3⟩ := asPair s3.number
  obtain ⟨a4, s5, q4⟩ := asPair s4.number
  obtain ⟨a5, s6, q5⟩ := asPair s5.number
  obtain ⟨a6, s7, q6⟩ := asPair s6.number
  obtain ⟨a7, s8, q7⟩ := asPair s7.number
  obtain ⟨y, sy, q8⟩ := asPair s8.flag
  obtain ⟨d, sd, q9⟩ := asPair sy.flag
  obtain ⟨c, sc, q10⟩ := asPair sd.number
  obtain ⟨es, se, q11⟩ := asPair (rdEnts st (a4 : Int) c 9 0 sc)
  obtain ⟨v, sv, q12⟩ := asPair se.number
  obtain ⟨vs, svs, q13⟩ := asPair (rdNums st v fv 0 sv)
  obtain ⟨t, st', q14⟩ := asPair (svs.text 512)
  refine ⟨a0, s1, a1, s2, a2, s3, a3, s4, a4, s5, a5, s6, a6, s7, a7, s8, y, sy, d, sd, c, sc, es, se, v, sv, vs, svs, t, st', q0, q1, q2, q3, q4, q5, q6, q7, q8, q9, q10, q11, q12, q13, q14, ?_⟩
  unfold rdMsg
  simp only [q0, q1, q2, q3, q4, q5, q6, q7, q8, q9, q10, q11, q12, q13, q14]
/-- What is read without an error stood there. -/
theorem rdMsgC {st : Bool} {fv : Nat} {s : ScS} (hs : s.in_) (h : (rdMsg st fv s).2.2.2.e = 0) (he : (rdMsg st fv s).1.entries.length = (rdMsg st fv s).2.1) (hv : (rdMsg st fv s).1.voters.length = (rdMsg st fv s).2.2.1) :
    s.rest = encM (rdMsg st fv s).1 ++ (rdMsg st fv s).2.2.2.rest ∧ (rdMsg st fv s).2.2.2.in_ := by
  obtain ⟨a0, s1, a1, s2, a2, s3, a3, s4, a4, s5, a5, s6, a6, s7, a7, s8, y, sy, d, sd, c, sc, es, se, v, sv, vs, svs, t, st', q0, q1, q2, q3, q4, q5, q6, q7, q8, q9, q10, q11, q12, q13, q14, q⟩ := rdMsg_steps st fv s
  rw [q] at h he hv ⊢
  simp only at h he hv ⊢
  obtain ⟨i1, c0⟩ := numC' hs q0
  obtain ⟨i2, c1⟩ := numC' i1 q1
  obtain ⟨i3, c2⟩ := numC' i2 q2
  obtain ⟨i4, c3⟩ := numC' i3 q3
  obtain ⟨i5, c4⟩ := numC' i4 q4
  obtain ⟨i6, c5⟩ := numC' i5 q5
  obtain ⟨i7, c6⟩ := numC' i6 q6
  obtain ⟨i8, c7⟩ := numC' i7 q7
  obtain ⟨i9, c8⟩ := flagC' i8 q8
  obtain ⟨i10, c9⟩ := flagC' i9 q9
  obtain ⟨i11, c10⟩ := numC' i10 q10
  obtain ⟨i12, c11⟩ := entsC' i11 q11
  obtain ⟨i13, c12⟩ := numC' i12 q12
  obtain ⟨i14, c13⟩ := numsC' i13 q13
  obtain ⟨i15, c14⟩ := textC' i14 q14
  obtain ⟨e14, r14, _⟩ := c14 h
  obtain ⟨e13, r13⟩ := c13 e14
  obtain ⟨e12, r12⟩ := c12 e13
  obtain ⟨e11, r11⟩ := c11 e12
  obtain ⟨e10, r10⟩ := c10 e11
  obtain ⟨e9, r9⟩ := c9 e10
  obtain ⟨e8, r8⟩ := c8 e9
  obtain ⟨e7, r7⟩ := c7 e8
  obtain ⟨e6, r6⟩ := c6 e7
  obtain ⟨e5, r5⟩ := c5 e6
  obtain ⟨e4, r4⟩ := c4 e5
  obtain ⟨e3, r3⟩ := c3 e4
  obtain ⟨e2, r2⟩ := c2 e3
  obtain ⟨e1, r1⟩ := c1 e2
  obtain ⟨e0, r0⟩ := c0 e1
  refine ⟨?_, i15⟩
  unfold encM
  simp only [he, hv, msgNums]
  rw [r0, r1, r2, r3, r4, r5, r6, r7, r8, r9, r10, r11, r12, r13, r14]
  simp only [encNums, Int.toNat_natCast, List.append_assoc, List.append_nil, List.nil_append]

/-! ### what was put is read again -/
theorem entsB' (st : Bool) (ix : Int) (many : Nat) : ∀ (es : List EntS) (f i : Nat) (s : ScS) (l : List UInt8), St s (encEnts es ++ l) → i + es.length = many → es.length < f →
    (∀ (j : Nat) (e : EntS), es[j]? = some e → e.index = entIx ix (i + j) ∧ 0 ≤ e.term ∧ e.term ≤ 9223372036854775807 ∧ e.data.length ≤ 4096) → ∃ s', rdEnts st ix many f i s = (es, s') ∧ St s' l
  | [], f, i, s, l, h, hi, hf, _ => by
    simp only [List.length_nil, Nat.add_zero] at hi
    refine ⟨s, ?_, h⟩
    cases f with
    | zero => rfl
    | succ f => unfold rdEnts; rw [if_neg (by omega)]
  | e :: es, f, i, s, l, h, hi, hf, hall => by
    rw [List.length_cons] at hi hf
    obtain ⟨g, rfl⟩ : ∃ g, f = g + 1 := ⟨f - 1, by omega⟩
    obtain ⟨h1, h2, h3, h4⟩ := hall 0 e rfl
    have hst : St s (digs e.term.toNat ++ (digs e.data.length ++ (e.data ++ (encEnts es ++ l)))) := by
      have := h
      simpa only [encEnts, List.append_assoc] using this
    obtain ⟨s1, q1, t1⟩ := numB hst (by omega)
    obtain ⟨s2, q2, t2⟩ := textB 4096 t1 (by omega) (by simpa using h4)
    obtain ⟨s3, q3, t3⟩ := entsB' st ix many es g (i + 1) s2 l t2 (by omega) (by omega) (fun j x hj => by
      have := hall (j + 1) x (by simpa using hj)
      rwa [show i + (j + 1) = i + 1 + j by omega] at this)
    refine ⟨s3, ?_, t3⟩
    unfold rdEnts
    rw [if_pos ⟨by omega, fun _ => h.e⟩, q1]
    simp only [q2, q3]
    congr 2
    cases e
    simp only at h1 h2 ⊢
    rw [h1, Nat.add_zero]
    congr 1
    omega
theorem numsB' (st : Bool) (many : Nat) : ∀ (vs : List Int) (f i : Nat) (s : ScS) (l : List UInt8), St s (encNums vs ++ l) → i + vs.length = many → vs.length < f →
    (∀ x ∈ vs, 0 ≤ x ∧ x ≤ 9223372036854775807) → ∃ s', rdNums st many f i s = (vs, s') ∧ St s' l
  | [], f, i, s, l, h, hi, hf, _ => by
    simp only [List.length_nil, Nat.add_zero] at hi
    refine ⟨s, ?_, h⟩
    cases f with
    | zero => rfl
    | succ f => unfold rdNums; rw [if_neg (by omega)]
  | e :: es, f, i, s, l, h, hi, hf, hall => by
    rw [List.length_cons] at hi hf
    obtain ⟨g, rfl⟩ : ∃ g, f = g + 1 := ⟨f - 1, by omega⟩
    have h1 := hall e (by simp)
    have hst : St s (digs e.toNat ++ (encNums es ++ l)) := by
      have := h
      simpa only [encNums, List.append_assoc] using this
    obtain ⟨s1, q1, t1⟩ := numB hst (by omega)
    obtain ⟨s3, q3, t3⟩ := numsB' st many es g (i + 1) s1 l t1 (by omega) (by omega) (fun x hx => hall x (by simp [hx]))
    refine ⟨s3, ?_, t3⟩
    unfold rdNums
    rw [if_pos ⟨by omega, fun _ => h.e⟩, q1]
    simp only [q3]
    congr 2
    omega
theorem ents_ix {T : Int} : ∀ {es : List EntS} {i t : Int}, entsB T i t es = true → ∀ (j : Nat) (e : EntS), es[j]? = some e → e.index = i + 1 + j
  | [], _, _, _, j, e, hj => by simp at hj
  | x :: es, i, t, h, j, e, hj => by
    simp only [entsB, entB, inB, Bool.and_eq_true, decide_eq_true_eq] at h
    cases j with
    | zero => simp at hj; subst hj; omega
    | succ j =>
      have := ents_ix h.2 j e (by simpa using hj)
      omega
/-- A message that may be is read as it was put. -/
theorem rdMsgB (st : Bool) {fv : Nat} (hfv : 8 ≤ fv) {m : MsgS} (h : chkM m = true) {s : ScS} {l : List UInt8} (hs : St s (encM m ++ l)) : ∃ s', rdMsg st fv s = (m, m.entries.length, m.voters.length, s') ∧ St s' l := by
  have hc := chkM_iff h
  have hh := headB_iff.1 hc.head
  have h7 : m.voters.length ≤ 7 := by
    by_cases hk : m.kind = 5
    · exact chk_le7 (hc.v5 hk)
    · rw [hc.v0 hk]; simp
  have hv0 : ∀ x ∈ m.voters, 0 ≤ x ∧ x ≤ 9223372036854775807 := by
    intro x hx
    by_cases hk : m.kind = 5
    · have := chk_mem (hc.v5 hk) hx; omega
    · rw [hc.v0 hk] at hx; cases hx
  obtain ⟨kind, fr, to_, term, index, logTerm, commit, round, yes, done, es, vs, ds⟩ := m
  have hk := hc.kind
  have hd := hc.dlen
  have h8 := hc.len
  have hes := hc.ents
  simp only at hk hd h8 hes hh h7 hv0
  clear hc h
  have hst := hs
  simp only [encM, msgNums, encNums, List.append_assoc, List.append_nil, List.nil_append] at hst
  clear hs
  obtain ⟨s1, q0, t1⟩ := numB hst (by omega)
  obtain ⟨s2, q1, t2⟩ := numB t1 (by omega)
  obtain ⟨s3, q2, t3⟩ := numB t2 (by omega)
  obtain ⟨s4, q3, t4⟩ := numB t3 (by omega)
  obtain ⟨s5, q4, t5⟩ := numB t4 (by omega)
  obtain ⟨s6, q5, t6⟩ := numB t5 (by omega)
  obtain ⟨s7, q6, t7⟩ := numB t6 (by omega)
  obtain ⟨s8, q7, t8⟩ := numB t7 (by omega)
  obtain ⟨s9, q8, t9⟩ := flagB t8
  obtain ⟨s10, q9, t10⟩ := flagB t9
  obtain ⟨s11, q10, t11⟩ := numB t10 (by omega)
  obtain ⟨s12, q11, t12⟩ := entsB' st (index.toNat : Int) es.length es 9 0 s11 _ t11 (by omega) (by omega) (fun j e hj => by
    have h1 := ents_ix hes j e hj
    have h2 := entsB_mem hes e (List.mem_of_getElem? hj)
    have h3 := (List.getElem?_eq_some_iff.1 hj).1
    refine ⟨?_, by omega, by omega, h2.2.2.2.2⟩
    unfold entIx
    have e1 : wrap64 ((index.toNat : Int) + 1) = (index.toNat : Int) + 1 := IntWalk.wrap64_in _ (by omega)
    rw [e1, IntWalk.wrap64_in _ (by omega)]
    omega)
  obtain ⟨s13, q12, t13⟩ := numB t12 (by omega)
  obtain ⟨s14, q13, t14⟩ := numsB' st vs.length vs fv 0 s13 _ t13 (by omega) (by omega) hv0
  obtain ⟨s15, q14, t15⟩ := textB 512 t14 (by omega) (by simpa using hd)
  refine ⟨s15, ?_, t15⟩
  unfold rdMsg
  simp only [q0, q1, q2, q3, q4, q5, q6, q7, q8, q9, q10, q11, q12, q13, q14]
  congr 1
  simp only [MsgS.mk.injEq, and_true]
  omega
end Go.Proofs.Ytfflcnlgkbgbhaa
