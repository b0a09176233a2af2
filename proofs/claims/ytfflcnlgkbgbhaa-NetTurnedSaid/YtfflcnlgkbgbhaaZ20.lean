/-
  Texts of this claim, put together: Turned, RowsLaw, TornLaw, NetTurned.
-/
import Derived.Test.YtfflcnlgkbgbhaaZ10
import Derived.Test.YtfflcnlgkbgbhaaZ3
import Derived.Test.YtfflcnlgkbgbhaaZ6
import Derived.Test.YtfflcnlgkbgbhaaZ19
set_option linter.unusedVariables false
set_option linter.unusedSimpArgs false
namespace Go.Proofs.Ytfflcnlgkbgbhaa
open Go.RowKit

theorem turned_at (L n : Nat) (a : Int) (h1 : n + 6 ≤ L) (h2 : L ≤ 200000) : ∃ J : Nat, wrap64 ((L : Int) - 1 - wrap64 ((IntKind.u64.wrap a).tmod ((n : Int) + 4))) = (J : Int) ∧ J < L ∧ L - (n + 4) ≤ J := by
  have hq : 0 ≤ IntKind.u64.wrap a := by rw [IntKind.wrap_u64]; omega
  rw [Int.tmod_eq_emod_of_nonneg hq]
  have h3 := Int.emod_nonneg (IntKind.u64.wrap a) (show (n : Int) + 4 ≠ 0 by omega)
  have h4 := Int.emod_lt_of_pos (IntKind.u64.wrap a) (show (0 : Int) < (n : Int) + 4 by omega)
  generalize (IntKind.u64.wrap a) % ((n : Int) + 4) = r at h3 h4
  have e1 : wrap64 r = r := IntWalk.wrap64_in _ (by omega)
  rw [e1]
  have e2 : wrap64 ((L : Int) - 1 - r) = (L : Int) - 1 - r := IntWalk.wrap64_in _ (by omega)
  rw [e2]
  exact ⟨((L : Int) - 1 - r).toNat, by omega, by omega, by omega⟩

theorem turned_byte (X : UInt8) (x : Int) : ∃ z : UInt8, bits .xor .u8 (X.toNat : Int) (IntKind.u64.wrap (1 + (IntKind.u64.wrap x).tmod 255) % 256) = (z.toNat : Int) ∧ z ≠ X := by
  have hq : 0 ≤ IntKind.u64.wrap x := by rw [IntKind.wrap_u64]; omega
  rw [Int.tmod_eq_emod_of_nonneg hq]
  have h3 := Int.emod_nonneg (IntKind.u64.wrap x) (show (255 : Int) ≠ 0 by omega)
  have h4 := Int.emod_lt_of_pos (IntKind.u64.wrap x) (show (0 : Int) < 255 by omega)
  generalize (IntKind.u64.wrap x) % 255 = r at h3 h4
  rw [IntKind.wrap_u64]
  obtain ⟨y, hy⟩ : ∃ y : Nat, (1 + r) % 18446744073709551616 % 256 = (y : Int) := ⟨(1 + r).toNat, by omega⟩
  rw [hy]
  have hy1 : 1 ≤ y ∧ y ≤ 255 := by omega
  have hX := X.toNat_lt
  have hxl : X.toNat ^^^ y < 256 := Nat.xor_lt_two_pow (n := 8) (by omega) (by omega)
  have hv : ∀ a : Nat, a < 256 → (BitVec.ofInt 8 (a : Int)).toNat = a := fun a ha => by
    rw [BitVec.ofInt_natCast, BitVec.toNat_ofNat]; exact Nat.mod_eq_of_lt (by omega)
  have hz : (byt (X.toNat ^^^ y)).toNat = X.toNat ^^^ y := by rw [byt_toNat]; omega
  refine ⟨byt (X.toNat ^^^ y), ?_, ?_⟩
  · show IntKind.u8.wrap ((BitVec.ofInt 8 (X.toNat : Int) ^^^ BitVec.ofInt 8 (y : Int)).toNat : Int) = _
    rw [BitVec.toNat_xor, hv _ (by omega), hv _ (by omega), IntKind.wrap_u8, hz]
    omega
  · intro e
    have h := congrArg UInt8.toNat e
    rw [hz] at h
    have := congrArg (X.toNat ^^^ ·) h
    simp only [← Nat.xor_assoc, Nat.xor_self, Nat.zero_xor] at this
    omega

end Go.Proofs.Ytfflcnlgkbgbhaa
set_option linter.unusedVariables false
set_option linter.unusedSimpArgs false
namespace Go.Proofs.Ytfflcnlgkbgbhaa

/-- Records, one behind the other. -/
def recs (l : List (List UInt8)) : List UInt8 := (l.map rcd).flatten
theorem recs_nil : recs [] = [] := rfl
theorem recs_cons (p : List UInt8) (l : List (List UInt8)) : recs (p :: l) = rcd p ++ recs l := rfl
theorem recs_snoc (l : List (List UInt8)) (p : List UInt8) : recs (l ++ [p]) = recs l ++ rcd p := by simp [recs]
theorem rows_recs (l : List (List UInt8)) (t : List UInt8) (h : ∀ p ∈ l, p.length ≤ 65536) (ht : (pick t).2.2 ≠ 0) : rows (recs l ++ t) = (l, (recs l).length) := by
  induction l with
  | nil => rw [recs_nil, List.nil_append, rows_not _ ht]; rfl
  | cons p l ih =>
    have h1 := pick_rcd p (recs l ++ t) (h p (by simp))
    rw [recs_cons, List.append_assoc, rows_ok _ (by rw [h1]), h1]
    simp only [List.drop_left]
    rw [ih fun q hq => h q (by simp [hq])]
    simp
theorem pick_none : (pick []).2.2 = 2 := by simp [pick]
theorem rows_one (p : List UInt8) (h : p.length ≤ 65536) : rows (rcd p) = ([p], (rcd p).length) := by
  have := rows_recs [p] [] (by simpa using h) (by rw [pick_none]; decide)
  simpa [recs] using this
theorem digs_under (n : Nat) (h : n < 128) : (digs n).length = 1 := by
  unfold digs
  rw [show n / 128 = 0 by omega, hi_zero]; rfl
theorem rows_a : rows (rcd [97]) = ([[97]], 7) := by
  rw [rows_one _ (by decide), rcd_len]
  show ([[97]], 1 + (digs 1).length + 1 + 4) = _
  rw [digs_under 1 (by omega)]
end Go.Proofs.Ytfflcnlgkbgbhaa
set_option linter.unusedVariables false
set_option linter.unusedSimpArgs false
namespace Go.Proofs.Ytfflcnlgkbgbhaa

theorem hi_take (j : Nat) : ∀ (m i : Nat), m < 128 ^ j → i ≤ (hi m).length → ∃ m', m' ≤ m ∧ (hi m).take i = hi m' := by
  induction j with
  | zero =>
    intro m i h hi'
    exact ⟨m, Nat.le_refl _, by have : m = 0 := by simpa using h
                                subst this; rw [hi_zero]; simp⟩
  | succ j ih =>
    intro m i h hi'
    rcases Nat.lt_or_ge i (hi m).length with h1 | h1
    · rcases Nat.eq_zero_or_pos m with h0 | h0
      · subst h0; rw [hi_zero] at h1; simp at h1
      have hq : m / 128 < 128 ^ j := Nat.div_lt_of_lt_mul (by rw [Nat.pow_succ] at h; omega)
      rw [hi_pos m h0, List.length_append, List.length_singleton] at h1
      obtain ⟨m', h2, h3⟩ := ih (m / 128) i hq (by omega)
      exact ⟨m', by omega, by rw [hi_pos m h0, List.take_append_of_le_length (by omega)]; exact h3⟩
    · exact ⟨m, Nat.le_refl _, List.take_of_length_le h1⟩
/-- Of a number's bytes a beginning is too short. -/
theorem rd_short (n i : Nat) (h : n < 9223372036854775808) (hi' : i < (digs n).length) : rd ((digs n).take i) = (0, 0, 2) := by
  have h9 : n / 128 < 128 ^ 8 := by
    have : (128 : Nat) ^ 8 = 72057594037927936 := by decide
    omega
  unfold digs at hi' ⊢
  rw [List.length_append, List.length_singleton] at hi'
  rw [List.take_append_of_le_length (by omega)]
  obtain ⟨m', h1, h2⟩ := hi_take 8 _ i h9 (by omega)
  rw [h2]
  have := rdGo_hi 8 m' [] (by omega) (by omega)
  rw [List.append_nil] at this
  unfold rd
  rw [this]; rfl
/-- Of a record a beginning is too short. -/
theorem pick_short (p : List UInt8) (hp : p.length ≤ 65536) (j : Nat) (hj : j < (rcd p).length) : pick ((rcd p).take j) = ([], 0, 2) := by
  have hl := rcd_len p
  rcases Nat.eq_zero_or_pos j with h0 | h0
  · subst h0; simp [pick]
  have e1 : rcd p = byt 93 :: (digs p.length ++ (p ++ be4 (crc (body p)))) := by simp [rcd, body]
  obtain ⟨i, rfl⟩ : ∃ i, j = i + 1 := ⟨j - 1, by omega⟩
  have e2 : (rcd p).take (i + 1) = byt 93 :: (digs p.length ++ (p ++ be4 (crc (body p)))).take i := by rw [e1]; rfl
  have e3 : ((rcd p).take (i + 1)).drop 1 = (digs p.length ++ (p ++ be4 (crc (body p)))).take i := by rw [e2]; rfl
  have hlen : ((rcd p).take (i + 1)).length = i + 1 := by rw [List.length_take]; omega
  have e4 : ((rcd p).take (i + 1))[0]? = some (byt 93) := by rw [e2]; rfl
  unfold pick
  rw [hlen, e4, e3, if_neg (by omega), if_neg (by simp)]
  rcases Nat.lt_or_ge i (digs p.length).length with h1 | h1
  · rw [List.take_append_of_le_length (by omega), rd_short _ _ (by omega) h1]
    simp
  · have e5 : (digs p.length ++ (p ++ be4 (crc (body p)))).take i = digs p.length ++ (p ++ be4 (crc (body p))).take (i - (digs p.length).length) := by
      rw [List.take_append, List.take_of_length_le h1]
    rw [e5, rd_digs _ _ (by omega)]
    simp only
    rw [if_neg (by simp), if_neg (by omega), if_pos (by omega)]

/-- Where the records end. -/
def endOf (l : List (List UInt8)) (n : Nat) : Nat := (recs (l.take n)).length
theorem endOf_zero (l : List (List UInt8)) : endOf l 0 = 0 := rfl
theorem take_snoc {α : Type} (l : List α) (n : Nat) (h : n < l.length) : l.take (n + 1) = l.take n ++ [l[n]] := by
  rw [List.take_add_one, List.getElem?_eq_getElem h]; rfl
theorem endOf_succ (l : List (List UInt8)) (n : Nat) (h : n < l.length) : endOf l (n + 1) = endOf l n + (rcd l[n]).length := by
  unfold endOf
  rw [take_snoc l n h, recs_snoc, List.length_append]
theorem recs_take (l : List (List UInt8)) (n : Nat) (h : n < l.length) : recs (l.take (n + 1)) = recs (l.take n) ++ rcd l[n] := by rw [take_snoc l n h, recs_snoc]
theorem recs_append (l m : List (List UInt8)) : recs (l ++ m) = recs l ++ recs m := by simp [recs]
theorem recs_split (l : List (List UInt8)) (n : Nat) : recs l = recs (l.take n) ++ recs (l.drop n) := by
  rw [← recs_append, List.take_append_drop]
theorem endOf_le (l : List (List UInt8)) (n : Nat) : endOf l n ≤ (recs l).length := by
  unfold endOf; rw [recs_split l n, List.length_append]; omega
/-- What is found of records, the last one cut off. -/
theorem torn (l : List (List UInt8)) (h : ∀ p ∈ l, p.length ≤ 65536) (n k : Nat) (hn : n ≤ l.length) (hk : k ≤ (recs l).length) (h1 : endOf l n ≤ k) (h2 : n < l.length → k < endOf l (n + 1)) :
    rows ((recs l).take k) = (l.take n, endOf l n) ∧ (pick (((recs l).drop (endOf l n)).take (k - endOf l n))).2.2 = 2 := by
  have hs := recs_split l n
  have hpk : (pick (((recs l).drop (endOf l n)).take (k - endOf l n))).2.2 = 2 := by
    rw [hs]
    unfold endOf
    rw [List.drop_left]
    rcases Nat.lt_or_ge n l.length with h3 | h3
    · have h4 := h2 h3
      rw [endOf_succ l n h3] at h4
      have e : recs (l.drop n) = rcd l[n] ++ recs (l.drop (n + 1)) := by rw [List.drop_eq_getElem_cons h3, recs_cons]
      unfold endOf at h4 h1
      rw [e, List.take_append_of_le_length (by omega), pick_short _ (h _ (List.getElem_mem h3)) _ (by omega)]
    · rw [List.drop_of_length_le h3, recs_nil, List.take_nil]; exact pick_none
  refine ⟨?_, hpk⟩
  have e : (recs l).take k = recs (l.take n) ++ ((recs l).drop (endOf l n)).take (k - endOf l n) := by
    conv => lhs; rw [hs]
    rw [List.take_append, List.take_of_length_le (by exact h1)]
    congr 1
    conv => rhs; rw [hs]
    unfold endOf
    rw [List.drop_left]
  rw [e, rows_recs _ _ (fun p hp => h p (List.mem_of_mem_take hp)) (by rw [hpk]; decide)]
  rfl
end Go.Proofs.Ytfflcnlgkbgbhaa
set_option linter.unusedVariables false
set_option linter.unusedSimpArgs false
namespace Go.Proofs.Ytfflcnlgkbgbhaa
open Go.RowKit

theorem turned_in (L : Nat) (a : Int) (h1 : 0 < L) (h2 : L ≤ 200000) : ∃ J : Nat, wrap64 ((IntKind.u64.wrap a).tmod (L : Int)) = (J : Int) ∧ J < L := by
  have hq : 0 ≤ IntKind.u64.wrap a := by rw [IntKind.wrap_u64]; omega
  rw [Int.tmod_eq_emod_of_nonneg hq]
  have h3 := Int.emod_nonneg (IntKind.u64.wrap a) (show (L : Int) ≠ 0 by omega)
  have h4 := Int.emod_lt_of_pos (IntKind.u64.wrap a) (show (0 : Int) < (L : Int) by omega)
  generalize (IntKind.u64.wrap a) % (L : Int) = r at h3 h4
  rw [IntWalk.wrap64_in _ (by omega)]
  exact ⟨r.toNat, by omega, by omega⟩
theorem turned_in4 (L : Nat) (a : Int) (h1 : 19 ≤ L) (h2 : L ≤ 200000) : ∃ J : Nat, wrap64 (4 + wrap64 ((IntKind.u64.wrap a).tmod ((L : Int) - 4))) = (J : Int) ∧ 4 ≤ J ∧ J < L := by
  obtain ⟨J, hJ, hJ2⟩ := turned_in (L - 4) a (by omega) (by omega)
  rw [show ((L - 4 : Nat) : Int) = (L : Int) - 4 by omega] at hJ
  rw [hJ, IntWalk.wrap64_in _ (by omega)]
  exact ⟨4 + J, by omega, by omega, by omega⟩
theorem digs_pos1 (n : Nat) : 1 ≤ (digs n).length := by unfold digs; simp
theorem digs_len3 (n : Nat) (h : n ≤ 65536) : (digs n).length ≤ 3 := by
  unfold digs
  rw [List.length_append, List.length_singleton]
  have := hi_len 2 (n / 128) (by omega)
  omega
theorem encM_len (m : MsgS) : 13 ≤ (encM m).length := by
  unfold encM
  simp only [List.length_append, msgNums, encNums, List.length_nil]
  have h := fun n => digs_pos1 n
  have := h m.kind.toNat; have := h m.from_.toNat; have := h m.to_.toNat; have := h m.term.toNat; have := h m.index.toNat; have := h m.logTerm.toNat; have := h m.commit.toNat; have := h m.round.toNat
  have := h m.yes.toNat; have := h m.done.toNat; have := h m.entries.length; have := h m.voters.length; have := h m.data.length
  omega
theorem getM_pick {b : List UInt8} {c : Nat} (h : pick b = ([], 0, c)) (hc : c ≠ 0) : getM b = (zeroM, c) := by
  unfold getM; rw [h]; exact if_pos hc
/-- What is asked of a message's bytes. -/
theorem put_law {m : MsgS} (h : (putM m).2 = 0) : 19 ≤ (putM m).1.length ∧ (putM m).1.length ≤ 100000 ∧ (∀ k, k < (putM m).1.length → getM ((putM m).1.take k) = (zeroM, 2)) ∧
    ∀ i (hi : i < (putM m).1.length) (z : UInt8), 4 ≤ i → (putM m).1[i] ≠ z → getM ((putM m).1.set i z) = (zeroM, 11) := by
  have hc := putM_zero.1 h
  have hl := chkM_enc_len hc
  have h13 := encM_len m
  have hr := rcd_len (encM m)
  have hd := digs_pos1 (encM m).length
  have hd3 := digs_len3 (encM m).length (by omega)
  rw [putM_yes hc]
  refine ⟨by simp only; omega, by simp only; omega, fun k hk => getM_pick (pick_short _ (by omega) k hk) (by decide), fun i hi z h4 hz => getM_pick (pick_turned _ (by omega) i (by omega) hi z hz) (by decide)⟩

set_option maxRecDepth 1000000 in
set_option maxHeartbeats 16000000 in
theorem NetTurned_walk (w : World) (cs : Array Value) (m : MsgS) (hm : kMsg.K w (· < w.heap.size) m cs.toList) (at_ : Int) (hat : I64 at_) (x : Int) (hx : I64 x) :
    Calls Try.prog 6 #[.agg cs, .int .i64 at_, .int .i64 x] w fun e w' => e = .returned (.bool true) ∧ Ext w w' := by
  have HM := Lib.hid (MsgV.of_K hm)
  clear hm hat hx
  obtain ⟨Ae, ce, Av, cv, Ad, cd, e, -⟩ := HM.out.form
  injection e with e
  subst e
  dsimp only [msgC] at HM ⊢
  go_enter Try.func6, Try.ntmps6
  go_upto_region 1 with fail
  obtain ⟨w1, hw1⟩ : ∃ w1, w1 = w.alloc (.cells (msgC m (.slice Ae m.entries.length ce) (.slice Av m.voters.length cv) (.slice Ad m.data.length cd)) 26) := ⟨_, rfl⟩
  have HB1 := Lib.hid (show w1.heap[w.heap.size]? = some (.cells (msgC m (.slice Ae m.entries.length ce) (.slice Av m.voters.length cv) (.slice Ad m.data.length cd)) 26 (0, 0)) by rw [hw1]; exact heap_new w _ rfl _)
  have HE1 := Lib.hid (show Ext w w1 by rw [hw1]; exact (Ext.refl w).alloc _)
  unfold msgC at hw1
  rw [← hw1]
  obtain ⟨q, hq⟩ : ∃ q, q = w.heap.size := ⟨_, rfl⟩
  rw [← hq] at HB1 ⊢
  clear hw1 hq
  obtain ⟨⟨x0, x1, x2, x3, x4, x5, x6, x7, x8, x9, x10, x11, x12⟩, -⟩ := msg_cells HB1.out
  go_wp2_with fail
  obtain ⟨w2, hw2⟩ : ∃ w2, w2 = w1.alloc (.cells (msgC m (.slice Ae m.entries.length ce) (.slice Av m.voters.length cv) (.slice Ad m.data.length cd)) 26) := ⟨_, rfl⟩
  have hb2 : w2.heap[w1.heap.size]? = some (.cells (msgC m (.slice Ae m.entries.length ce) (.slice Av m.voters.length cv) (.slice Ad m.data.length cd)) 26 (0, 0)) := by rw [hw2]; exact heap_new w1 _ rfl _
  have HE2 := Lib.hid (show Ext w w2 by rw [hw2]; exact HE1.out.alloc _)
  have HB2 := Lib.hid (show w2.heap[q]? = some (.cells (msgC m (.slice Ae m.entries.length ce) (.slice Av m.voters.length cv) (.slice Ad m.data.length cd)) 26 (0, 0)) by rw [hw2]; exact blk_ext HB1.out ((Ext.refl w1).alloc _))
  unfold msgC at hw2
  rw [← hw2]
  clear hw2
  refine (weight_calls w2 (fun _ => True) _ [m] (Rs.one_msg hb2 trivial ((HM.out.ext HE2.out).mono (fun _ _ => trivial)))).mono ?_
  rintro e w3 ⟨⟨z, rfl, hz0, hz2, -⟩, n3, rfl⟩
  have HE3 := Lib.hid (HE2.out.drewN n3)
  have HB3 := Lib.hid (show (w2.drewN n3).heap[q]? = some (.cells (msgC m (.slice Ae m.entries.length ce) (.slice Av m.voters.length cv) (.slice Ad m.data.length cd)) 26 (0, 0)) from HB2.out)
  obtain ⟨w4, hw4⟩ : ∃ w4, w4 = w2.drewN n3 := ⟨_, rfl⟩
  rw [← hw4] at HE3 HB3 ⊢
  clear hb2 hw4 HE2 HB2 HE1 HB1 x0 x1 x2 x3 x4 x5 x6 x7 x8 x9 x10 x11 x12
  by_cases hbig : 65536 < z
  · go_wp2_with fail
    refine (awake_calls _).mono ?_
    rintro e w' ⟨rfl, hx⟩
    have HX := Lib.hid (HE3.out.trans hx)
    clear hx
    go_wp2_with fail
    go_ret
    exact ⟨rfl, HX.out⟩
  · obtain ⟨⟨x0, x1, x2, x3, x4, x5, x6, x7, x8, x9, x10, x11, x12⟩, -⟩ := msg_cells HB3.out
    go_wp2_with fail
    refine (Put_calls w4 _ _ m (HM.out.ext HE3.out)).mono ?_
    rintro e w5 ⟨p, rfl, ho, hx⟩
    have HO := Lib.hid ho
    have HE5 := Lib.hid (HE3.out.trans hx)
    have HE45 := Lib.hid (show w.heap.size ≤ w4.heap.size from HE3.out.le)
    clear ho hx HE3 HB3 hbig x0 x1 x2 x3 x4 x5 x6 x7 x8 x9 x10 x11 x12
    by_cases hpe : (putM m).2 = 0
    · obtain ⟨hl19, hl5, hshort, hturn⟩ := put_law hpe
      have HSH := Lib.hid hshort
      have HTN := Lib.hid hturn
      rw [hpe]
      clear hpe hshort hturn
      generalize (putM m).1 = R at hl19 hl5 HSH HTN HO ⊢
      obtain ⟨g, cap, rfl, hg1, hg2, hg3, hg4⟩ := HO.out.form (by omega)
      have HG := Lib.hid (Nat.le_trans HE45.out hg1)
      obtain ⟨J1, hJ1, hJ1l⟩ := turned_in R.length at_ (by omega) (by omega)
      obtain ⟨J, hJ, hJ4, hJl⟩ := turned_in4 R.length at_ (by omega) (by omega)
      have hto := slice_to tBytes (some ⟨g, 0, none⟩) R.length cap .i64 (J1 : Int) J1 rfl (by omega)
      have hJi : (J : Int) < (R.length : Int) := by omega
      have hJ0 : (0 : Int) ≤ (J : Int) := by omega
      have HTO := Lib.hid (HO.out.rs.to_ rfl (show J1 ≤ R.length by omega))
      simp only [partV_eq] at hto HTO
      rw [Nat.sub_zero, Nat.sub_zero] at hto HTO
      have HS1 := Lib.hid (HSH.out J1 hJ1l)
      clear hg1 hg4
      go_wp2_with fail
      refine (Get_calls _ _ _ _ HTO.out).mono ?_
      rw [HS1.out]
      rintro e w6 ⟨mv, rfl, hm6, hx⟩
      have HE6 := Lib.hid (HE5.out.trans hx)
      have HO6 := Lib.hid (HO.out.ext hx)
      obtain ⟨Be, de, Bv, dv, Bd, dd, rfl, -⟩ := hm6.form
      clear hx hm6 HE5 HO HTO hto HS1 hg2
      dsimp only [msgC]
      go_upto_region 9 with fail
      obtain ⟨w7, hw7⟩ : ∃ w7, w7 = w6.alloc (.cells (msgC zeroM (.slice Be zeroM.entries.length de) (.slice Bv zeroM.voters.length dv) (.slice Bd zeroM.data.length dd)) 26) := ⟨_, rfl⟩
      have hx : Ext w6 w7 := by rw [hw7]; exact (Ext.refl w6).alloc _
      have HE7 := Lib.hid (HE6.out.trans hx)
      have HO7 := Lib.hid (HO6.out.ext hx)
      unfold msgC at hw7
      rw [← hw7]
      clear hw7 hx HE6 HO6
      have hcell := (HO7.out.scell J hJl).1
      have hfr := (HO7.out.scell J hJl).2
      go_wp2_with fail
      obtain ⟨z, hz1, hz2⟩ := turned_byte R[J] x
      rw [hz1]
      have hset := HO7.out.sset (P := fun _ => True) (enc := fun b : UInt8 => .int .u8 (b.toNat : Int)) (h1 := fun _ => rfl) J z trivial
      have HSET := Lib.hid hset.1.rs
      have HE8 := Lib.hid (HE7.out.seti (g := g) (i := J) HG.out (.int .u8 (z.toNat : Int)))
      have HT := Lib.hid (HTN.out J hJl z hJ4 fun e => hz2 e.symm)
      clear hset hcell hfr hz1 hz2 HO7 HE7
      have hsl : (R.set J z).length = R.length := List.length_set
      have HSET2 := Lib.hid (show Rs kByte (w7.setCell ⟨g, J, none⟩ (.int .u8 (z.toNat : Int))) (w4.heap.size ≤ ·) (.slice (some ⟨g, 0, none⟩) R.length cap) (R.set J z) from HSET.out)
      clear hsl HSET
      refine (Get_calls _ _ _ _ HSET2.out).mono ?_
      rw [HT.out]
      rintro e w9 ⟨mv, rfl, hm9, hx⟩
      have HE9 := Lib.hid (HE8.out.trans hx)
      have HM9 := Lib.hid hm9.under
      obtain ⟨Ce, fe, Cv, fv, Cd, fd, rfl, -⟩ := hm9.form
      clear hx hm9 HE8 HSET2
      dsimp only [msgC] at HM9 ⊢
      go_upto_region 11 with fail
      obtain ⟨w10, hw10⟩ : ∃ w10, w10 = w9.alloc (.cells (msgC zeroM (.slice Ce zeroM.entries.length fe) (.slice Cv zeroM.voters.length fv) (.slice Cd zeroM.data.length fd)) 26) := ⟨_, rfl⟩
      have hb10 : w10.heap[w9.heap.size]? = some (.cells (msgC zeroM (.slice Ce zeroM.entries.length fe) (.slice Cv zeroM.voters.length fv) (.slice Cd zeroM.data.length fd)) 26 (0, 0)) := by rw [hw10]; exact heap_new w9 _ rfl _
      have hx : Ext w9 w10 := by rw [hw10]; exact (Ext.refl w9).alloc _
      have HE10 := Lib.hid (HE9.out.trans hx)
      have HM10 := Lib.hid (HM9.out.ext hx)
      unfold msgC at hw10
      rw [← hw10]
      obtain ⟨⟨x0, x1, x2, x3, x4, x5, x6, x7, x8, x9, x10, x11, x12⟩, -⟩ := msg_cells hb10
      clear hw10 hx HE9 HM9 hb10
      go_wp2_with fail
      refine (same_calls _ _ (fun _ => True) _ _ zeroM zeroM HM10.out (zero_V _ _)).mono ?_
      rw [decide_eq_true (rfl : zeroM = zeroM)]
      rintro e w11 ⟨rfl, hx⟩
      have HE11 := Lib.hid (HE10.out.trans hx)
      clear hx x0 x1 x2 x3 x4 x5 x6 x7 x8 x9 x10 x11 x12 HE10 HM10
      go_wp2_with fail
      refine (awake_calls _).mono ?_
      rintro e w12 ⟨rfl, hx⟩
      have HE12 := Lib.hid (HE11.out.trans hx)
      clear hx
      go_wp2_with fail
      go_ret
      exact ⟨rfl, HE12.out⟩
    · have hpb : (((putM m).2 : Int) != 0) = true := bne_iff_ne.2 (by omega)
      have hp122 : (putM m).2 = 122 := by
        cases hc : chkM m
        · rw [putM_no hc]
        · exact absurd (putM_zero.2 hc) hpe
      have hpb2 : (((putM m).2 : Int) == 122) = true := beq_iff_eq.2 (by omega)
      obtain ⟨Ap, cp, ep, _⟩ := id HO.out.rs
      subst ep
      generalize (putM m).2 = pe at hpb hpb2 ⊢
      clear hpe hp122
      go_wp2_with fail
      refine (awake_calls _).mono ?_
      rintro e w12 ⟨rfl, hx⟩
      have HE12 := Lib.hid (HE5.out.trans hx)
      clear hx
      go_wp2_with fail
      go_ret
      exact ⟨rfl, HE12.out⟩
end Go.Proofs.Ytfflcnlgkbgbhaa
