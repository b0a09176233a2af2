/-
  Texts of this claim, put together: DskBox, DiskPrefix.
-/
import Derived.Test.YtjjhmknlhfijjaaZ12
import Derived.Test.YtjjhmknlhfijjaaZ10
set_option linter.unusedVariables false
set_option linter.unusedSimpArgs false
namespace Go.Proofs.Ytjjhmknlhfijjaa
open Go.RowKit

section
variable {w0 w w' : World} {ps : List (Nat × DkS)} {i p : Nat} {s : DkS} {K : Nat → Prop}
theorem DkK.ext_ (h : DkK w0 w ps K) (he : Ext w w') : DkK w0 w' ps K := by
  obtain ⟨l, hl, hm, hK, hlt⟩ := h
  exact ⟨l, hl.ext_ he, hm, hK, fun k hk => Nat.lt_of_lt_of_le (hlt k hk) he.le⟩
/-- What was there ahead of all disks, and what has come since wr. -/
def BoxK (w0 wr w : World) (k : Nat) : Prop := k < w0.heap.size ∨ (wr.heap.size ≤ k ∧ k < w.heap.size)
theorem DkS_.box (h : DkS_ w0 w ps) (he : Ext w w') : DkK w0 w' ps (BoxK w0 w w') := by
  obtain ⟨l, hl, e⟩ := h
  refine ⟨l, hl.ext_ he, e, fun i x hx k hk hb => ?_, fun k hk => ?_⟩
  · have h1 := (hl.from_ i x hx).1 k hk
    have h2 := (hl.each i x hx).ltM k hk
    rcases hb with hb | hb <;> omega
  · rcases hk with hk | hk
    · exact Nat.lt_of_lt_of_le hk (hl.ext_ he).ext.le
    · exact hk.2
theorem DkK.op2 {F : Nat} {args : Array Value} {E : Ending} {s' : DkS} (h : DkK w0 w ps K) (hi : ps[i]? = some (p, s)) (hc : ∀ M D, DkX w p M D s → Calls Try.prog F args w fun e w' => e = E ∧ DkP w p M D w' s') :
    Calls Try.prog F args w fun e w' => e = E ∧ Hid (DkK w0 w' (ps.set i (p, s')) K) ∧ Hid (∀ k, K k → w'.heap[k]? = w.heap[k]?) := by
  obtain ⟨l, hl, hm, hK, hlt⟩ := h
  obtain ⟨x, hx, hps⟩ : ∃ x, l[i]? = some x ∧ (x.p, x.s) = (p, s) := by
    rw [← hm, List.getElem?_map] at hi
    obtain ⟨x, hx, e⟩ := Option.map_eq_some_iff.1 hi
    exact ⟨x, hx, e⟩
  injection hps with e1 e2
  subst e1; subst e2
  refine (hc _ _ (hl.each i x hx)).mono ?_
  rintro e w' ⟨rfl, M', D', h1, h2⟩
  refine ⟨rfl, Lib.hid ⟨_, hl.step hx h1 h2, by rw [← hm, List.map_set], fun j y hj k hk => ?_, fun k hk => Nat.lt_of_lt_of_le (hlt k hk) h2.1.le⟩, Lib.hid fun k hk => h2.1.block k (hlt k hk) fun hM => hK i x hx k hM hk⟩
  rw [List.getElem?_set] at hj
  split at hj
  · have hil : i < l.length := (List.getElem?_eq_some_iff.1 hx).1
    first | rw [if_pos hil] at hj | skip
    injection hj with hj
    subst hj
    rcases h2.2.1 k hk with h3 | h3
    · exact hK i x hx k h3
    · intro h4; have := hlt k h4; omega
  · exact hK j y hj k hk
theorem DkK.look2 {F : Nat} {args : Array Value} {Q : Ending → World → Prop} (h : DkK w0 w ps K) (hi : ps[i]? = some (p, s)) (hc : ∀ M D, DkX w p M D s → Calls Try.prog F args w fun e w' => Q e w' ∧ Ext w w') :
    Calls Try.prog F args w fun e w' => Q e w' ∧ Hid (Ext w w') ∧ Hid (DkK w0 w' ps K) := by
  obtain ⟨M, D, hx⟩ := h.t.x hi
  refine (hc M D hx).mono ?_
  rintro e w' ⟨h1, h2⟩
  exact ⟨h1, Lib.hid h2, Lib.hid (h.ext_ h2)⟩
/-- The call d in block g, and its bytes, kept. -/
structure BoxD (w : World) (K : Nat → Prop) (g : Nat) (d : DoS) (Ab : Option Addr) (cb : Nat) : Prop where
  at_ : K g
  blk : w.heap[g]? = some (.cells (doC d (.slice Ab d.b.length cb)) 43 (0, 0))
  bytes : Rs kByte w K (.slice Ab d.b.length cb) d.b
  ok : DoI d
theorem BoxD.ext {g : Nat} {d : DoS} {Ab : Option Addr} {cb : Nat} (h : BoxD w K g d Ab cb) (he : Ext w w') : BoxD w' K g d Ab cb := ⟨h.at_, blk_ext h.blk he, h.bytes.ext he, h.ok⟩
theorem BoxD.kept {g : Nat} {d : DoS} {Ab : Option Addr} {cb : Nat} (h : BoxD w K g d Ab cb) (hk : ∀ k, K k → w'.heap[k]? = w.heap[k]?) : BoxD w' K g d Ab cb := ⟨h.at_, (hk g h.at_).trans h.blk, h.bytes.keep fun b hb _ => hk b hb, h.ok⟩
end
end Go.Proofs.Ytjjhmknlhfijjaa
set_option linter.unusedVariables false
set_option linter.unusedSimpArgs false
namespace Go.Proofs.Ytjjhmknlhfijjaa
open Go.RowKit

def baseS (r : Int) (L : KL Nam) (A : List ActS) : DkS := ⟨false, 0, 0, 0, r, L, A⟩
theorem base_calm (r : Int) (L : KL Nam) (A : List ActS) : Calm (baseS r L A) := ⟨rfl, rfl⟩
theorem base_does (r : Int) (L : KL Nam) (A : List ActS) {d : DoS} (h : IsAct d) : doesS (baseS r L A) d = if codeF (baseS r L A) d = 0 then (0, baseS r L (A ++ [mkA d])) else (codeF (baseS r L A) d, baseS r L A) := by
  rw [does_act h, calm_push (base_calm r L A)]
  rfl
theorem torn_zero (b : Nam) : tornB 0 b = b := by
  unfold tornB
  have : clampN 0 b.length = 0 := by unfold clampN; omega
  rw [this]
  simp
theorem kept_zero (A : List ActS) {n : Nat} (h : n ≤ A.length) : keptA A n 0 = A.take n := by
  cases n with
  | zero => rw [keptA_zero]; simp
  | succ n =>
    rw [keptA_succ A n 0 (by omega), List.take_succ_eq_append_getElem (by omega)]
    unfold tornA
    rw [torn_zero]
theorem base_fall (r : Int) (L : KL Nam) (A : List ActS) (k : Nat) : fallS (baseS r L A) (k : Int) 0 = ⟨true, 0, 0, 0, r, runA L (A.take k), []⟩ := by
  unfold fallS
  have e : keptA (baseS r L A).acts (clampN (k : Int) (baseS r L A).acts.length) 0 = A.take k := by
    show keptA A (clampN (k : Int) A.length) 0 = _
    rw [kept_zero A (clamp_le _ _)]
    have : clampN (k : Int) A.length = min k A.length := by unfold clampN; omega
    rw [this]
    rcases Nat.le_total k A.length with h | h
    · rw [Nat.min_eq_left h]
    · rw [Nat.min_eq_right h, List.take_of_length_le (Nat.le_refl _), List.take_of_length_le h]
  rw [e]
  rfl
def keep121 (x : Int) : Int := wrap64 ((IntKind.u64.wrap x).tmod 121)
theorem keep121_nat (x : Int) : ∃ k : Nat, keep121 x = (k : Int) ∧ k < 121 := by
  unfold keep121
  have hq : 0 ≤ IntKind.u64.wrap x := by rw [IntKind.wrap_u64]; omega
  rw [Int.tmod_eq_emod_of_nonneg hq]
  have h3 := Int.emod_nonneg (IntKind.u64.wrap x) (show (121 : Int) ≠ 0 by omega)
  have h4 := Int.emod_lt_of_pos (IntKind.u64.wrap x) (show (0 : Int) < 121 by omega)
  generalize (IntKind.u64.wrap x) % 121 = y at h3 h4
  rw [IntWalk.wrap64_in _ (by omega)]
  exact ⟨y.toNat, by omega, by omega⟩
set_option maxRecDepth 100000 in
set_option maxHeartbeats 1600000 in
theorem DiskPrefix_walk (w : World) (room : Int) (hroom : -9223372036854775808 ≤ room ∧ room ≤ 9223372036854775807) (S1 : Nat → Prop) (v1 : Value) (l : List DoS) (h1 : Rs kDDo w S1 v1 l) (S2 : Nat → Prop) (v2 : Value) (m : List DoS) (h2 : Rs kDDo w S2 v2 m) (keep : Int) (hkeep : -9223372036854775808 ≤ keep ∧ keep ≤ 9223372036854775807) :
    Calls Try.prog 11 #[.int .i64 room, v1, v2, .int .i64 keep] w fun e w' => e = .returned (.bool true) ∧ Ext w w' := by
  obtain ⟨A2, c2, e, -, -, -, hrw⟩ := id h2.under
  subst e
  have HRW := Lib.hid hrw
  have HL2 := Lib.hid h2
  clear h2 hrw hroom hkeep
  obtain ⟨A1, c1, e, -⟩ := id h1
  subst e
  have HL1 := Lib.hid h1
  clear h1
  have HMD := Lib.hid (made_calls w w [] room S1 _ l (DkS_.nil w) HL1.out)
  go_enter Try.func11, Try.ntmps11
  go_wp2_with fail
  refine HMD.out.mono ?_
  rintro e w1 ⟨p, s, rfl, HD1, HS1⟩
  unfold ptr
  simp only [List.nil_append] at HD1
  by_cases hs : shortF l = true
  case neg =>
    have hs' : shortF l = false := by simpa using hs
    rw [hs']
    clear hs hs'
    go_wp2_with fail
    refine (awake_calls w1).mono ?_
    rintro e w2 ⟨rfl, hx⟩
    have HX := Lib.hid (HD1.out.ext.trans hx)
    clear hx
    go_wp2_with fail
    go_ret
    exact ⟨rfl, HX.out⟩
  have hs0 := HS1.out hs
  have HLN := Lib.hid (show s.acts.length ≤ 120 by
    rw [hs0]
    have h1 := foldD_len l (newS (room20 room))
    have h2 := short_len hs
    have h3 : (newS (room20 room)).acts.length = 0 := rfl
    unfold madeS
    omega)
  have HRM := Lib.hid (show s.room < 1048576 by rw [hs0]; exact madeS_room room l)
  have HS := Lib.hid hs
  rw [hs]
  clear hs hs0 HMD
  go_wp2_with fail
  refine (short_calls w1 _ _ m (HL2.out.ext HD1.out.ext)).mono ?_
  rintro e w' ⟨rfl, rfl⟩
  by_cases hs2 : shortF m = true
  case neg =>
    have hs' : shortF m = false := by simpa using hs2
    rw [hs']
    clear hs2 hs'
    go_wp2_with fail
    refine (awake_calls w1).mono ?_
    rintro e wz ⟨rfl, hx⟩
    have HXZ := Lib.hid (HD1.out.ext.trans hx)
    clear hx
    go_wp2_with fail
    go_ret
    exact ⟨rfl, HXZ.out⟩

  have HSL2 := Lib.hid (short_len hs2)
  rw [hs2]
  clear hs2
  go_wp2_with fail
  refine (HD1.out.op (i := 0) rfl (fun M D hX => Start_calls w1 p M D s hX)).mono ?_
  rintro e wa ⟨rfl, HDa⟩
  change Hid (DkS_ w wa [(p, startS s)]) at HDa
  go_wp2_with fail
  refine (HDa.out.op (i := 0) rfl (fun M D hX => Arm_calls wa p M D (startS s) 0 0 0 hX i0 i0 i0)).mono ?_
  rw [calm_code]
  rintro e w3 ⟨rfl, HD3⟩
  change Hid (DkS_ w w3 [(p, calmS s)]) at HD3
  go_wp2_with fail
  refine (HD3.out.op (i := 0) rfl (fun M D hX => Sync_calls w3 p M D (calmS s) hX)).mono ?_
  rw [synced_code]
  rintro e w4 ⟨rfl, HD4⟩
  change Hid (DkS_ w w4 [(p, syncedS s)]) at HD4
  go_wp2_with fail
  refine (HD4.out.twin (i := 0) rfl (show (syncedS s).acts.length ≤ 1000000 from Nat.zero_le _)).mono ?_
  rintro e w5 ⟨q, rfl, HD5, -⟩
  obtain ⟨r, hr⟩ : ∃ r, r = s.room := ⟨_, rfl⟩
  obtain ⟨L, hL⟩ : ∃ L, L = s.seen := ⟨_, rfl⟩
  change Hid (DkS_ w w5 [(p, baseS s.room s.seen []), (q, baseS s.room s.seen [])]) at HD5
  rw [← hr, ← hL] at HD5
  clear hr hL HDa HD1 HD3 HD4 HS1
  unfold ptr
  have hkp : wrap64 ((IntKind.u64.wrap keep).tmod 121) = keep121 keep := rfl
  obtain ⟨K, hK, hK2⟩ := keep121_nat keep
  rw [hK] at hkp
  clear hK
  go_wp2_with fail
  rw [hkp]
  clear hkp
  go_loopw [42] (fun i wr => ∃ (k : Nat) (A : List ActS), k ≤ m.length ∧ i = .int .i64 k ∧ Hid (DkS_ w wr [(p, baseS r L A), (q, baseS r L (A.take K))]) ∧ Hid (A.length ≤ k)) (fun i _ => m.length - (intOf i).toNat)
  case atStart => exact ⟨0, [], Nat.zero_le _, rfl, by simpa using HD5, Lib.hid (Nat.le_refl _)⟩
  case round =>
    clear HD5
    obtain ⟨k, A, hk, rfl, HDk, HAL⟩ := hrel
    have hmb : m.length ≤ 120 := HSL2.out
    by_cases hlt : k < m.length
    · obtain ⟨ad, Ab, cb, rfl, hbl, hi, hb, x0, x1, x2, x3, x4, x5, x6, x7⟩ := (HRW.out.keep (w' := wr) fun b _ hl => HDk.out.ext.block b hl).ddo hlt
      have HI := Lib.hid hi
      have HB := Lib.hid hb
      obtain ⟨d, hdd⟩ : ∃ d, d = m[k] := ⟨_, rfl⟩
      rw [← hdd] at HI HB x0 x1 x2 x3 x4 x5 x6 x7
      have HDD := Lib.hid hdd
      clear hi hb hdd
      go_upto_region 12 with fail
      obtain ⟨w2, hw2⟩ : ∃ w2, w2 = wr.alloc (.cells (doC d (.slice Ab d.b.length cb)) 43) := ⟨_, rfl⟩
      obtain ⟨g, hg⟩ : ∃ g, g = wr.heap.size := ⟨_, rfl⟩
      have hx2 : Ext wr w2 := by rw [hw2]; exact (Ext.refl _).alloc _
      have hb2 := HB.out.ext hx2
      have hg2 : w2.heap[g]? = some (.cells (doC d (.slice Ab d.b.length cb)) 43 (0, 0)) := by rw [hw2]; exact heap_new wr g hg.symm _
      have hk2 := HDk.out.box hx2
      have hbox : BoxD w2 (BoxK w wr w2) g d Ab cb := ⟨.inr ⟨by omega, blk_lt hg2⟩, hg2, hb2.mono fun k hk => .inl hk, HI.out⟩
      obtain ⟨K0, hK0⟩ : ∃ K0, K0 = BoxK w wr w2 := ⟨_, rfl⟩
      rw [← hK0] at hk2 hbox
      have HK2 := Lib.hid hk2
      have HBX2 := Lib.hid hbox
      unfold doC at hw2
      rw [← hw2, ← hg]
      clear hw2 hg hx2 hb2 hg2 hk2 hbox hK0 x0 x1 x2 x3 x4 x5 x6 x7
      obtain ⟨x0, x1, x2, x3, x4, x5, x6, x7⟩ := do_cells HBX2.out.blk
      have hgl := blk_lt HBX2.out.blk
      go_wp2_with fail
      refine (acts_calls w2 d (.slice Ab d.b.length cb)).mono ?_
      rintro e w3 ⟨rfl, hx3⟩
      have HK3 := Lib.hid (HK2.out.ext_ hx3)
      have HBX3 := Lib.hid (HBX2.out.ext hx3)
      clear hx3
      clear x0 x1 x2 x3 x4 x5 x6 x7 hgl
      obtain ⟨x0, x1, x2, x3, x4, x5, x6, x7⟩ := do_cells HBX3.out.blk
      have hgl := blk_lt HBX3.out.blk
      by_cases ha : actB d = true
      case neg =>
        have ha' : actB d = false := by simpa using ha
        rw [ha']
        clear ha ha'
        go_wp2_with fail
        go_roundw
        case rel => exact ⟨k + 1, A, by omega, by go_num, Lib.hid HK3.out.t, Lib.hid (by have := HAL.out; omega)⟩
        case measure => simp [intOf]; omega

      rw [ha]
      have HA := Lib.hid (show IsAct d from isAct_of (by unfold actB at ha; simpa using ha))
      clear ha
      have HLA := Lib.hid (show (baseS r L A).acts.length ≤ 1000000 by show A.length ≤ 1000000; have := HAL.out; omega)
      by_cases hc : codeF (baseS r L A) d = 0
      case neg =>
        have HE := Lib.hid (show doesS (baseS r L A) d = (codeF (baseS r L A) d, baseS r L A) by rw [base_does r L A HA.out, if_neg hc])
        obtain ⟨cc, hcc⟩ : ∃ cc, cc = codeF (baseS r L A) d := ⟨_, rfl⟩
        rw [← hcc] at HE hc
        have hcb : (cc == 0) = false := beq_eq_false_iff_ne.2 hc
        clear hcc hc
        go_wp2_with fail
        refine (HK3.out.op2 (i := 0) rfl (fun M D hX => does_calls w3 p M D _ _ d _ hX HBX3.out.ok HBX3.out.bytes HLA.out)).mono ?_
        rw [HE.out]
        rintro e w4 ⟨rfl, HK4, HKB4⟩
        change Hid (DkK w w4 [(p, baseS r L A), (q, baseS r L (A.take K))] K0) at HK4
        have HBX4 := Lib.hid (HBX3.out.kept HKB4.out)
        go_wp2_with fail
        go_roundw
        case rel => exact ⟨k + 1, A, by omega, by go_num, Lib.hid HK4.out.t, Lib.hid (by have := HAL.out; omega)⟩
        case measure => simp [intOf]; omega

      have HE := Lib.hid (show doesS (baseS r L A) d = (0, baseS r L (A ++ [mkA d])) by rw [base_does r L A HA.out, if_pos hc])
      clear hc
      go_wp2_with fail
      refine (HK3.out.op2 (i := 0) rfl (fun M D hX => does_calls w3 p M D _ _ d _ hX HBX3.out.ok HBX3.out.bytes HLA.out)).mono ?_
      rw [HE.out]
      rintro e w4 ⟨rfl, HK4, HKB4⟩
      change Hid (DkK w w4 [(p, baseS r L (A ++ [mkA d])), (q, baseS r L (A.take K))] K0) at HK4
      have HBX4 := Lib.hid (HBX3.out.kept HKB4.out)
      clear x0 x1 x2 x3 x4 x5 x6 x7 hgl
      go_wp2_with fail
      refine (HK4.out.look2 (i := 0) (Q := fun e w' => e = .returned (.int .i64 (pendF (baseS r L (A ++ [mkA d]))))) rfl fun M D hx => (Pending_calls w4 p M D _ hx).mono fun e w' ⟨h1, h2⟩ => ⟨h1, h2 ▸ Ext.refl _⟩).mono ?_
      rw [show pendF (baseS r L (A ++ [mkA d])) = ((A.length + 1 : Nat) : Int) by show ((A ++ [mkA d]).length : Int) = _; simp]
      rintro e w5 ⟨rfl, HX5, HK5⟩
      have HBX5 := Lib.hid (HBX4.out.ext HX5.out)
      obtain ⟨nA, hnA⟩ : ∃ nA, nA = A.length + 1 := ⟨_, rfl⟩
      rw [← hnA]
      obtain ⟨x0, x1, x2, x3, x4, x5, x6, x7⟩ := do_cells HBX5.out.blk
      have hgl := blk_lt HBX5.out.blk
      by_cases hle : nA ≤ K
      · have hlb : decide ((nA : Int) ≤ (K : Int)) = true := decide_eq_true (by omega)
        have htk : A.take K = A := List.take_of_length_le (by omega)
        have htk2 : (A ++ [mkA d]).take K = A ++ [mkA d] := List.take_of_length_le (by simp; omega)
        rw [htk] at HK5
        have HTK := Lib.hid htk2
        have HNA := Lib.hid hnA
        clear htk htk2 hnA
        go_wp2_with fail
        refine (HK5.out.op2 (i := 1) rfl (fun M D hX => does_calls w5 q M D _ _ d _ hX HBX5.out.ok HBX5.out.bytes HLA.out)).mono ?_
        rw [HE.out]
        rintro e w6 ⟨rfl, HK6, HKB6⟩
        change Hid (DkK w w6 [(p, baseS r L (A ++ [mkA d])), (q, baseS r L (A ++ [mkA d]))] K0) at HK6
        have HBX6 := Lib.hid (HBX5.out.kept HKB6.out)
        go_wp2_with fail
        go_roundw
        case rel => exact ⟨k + 1, A ++ [mkA d], by omega, by go_num, by rw [HTK.out]; exact Lib.hid HK6.out.t, Lib.hid (by have := HAL.out; rw [List.length_append]; simp; omega)⟩
        case measure => simp [intOf]; omega

      · have hlb : decide ((nA : Int) ≤ (K : Int)) = false := decide_eq_false (by omega)
        have HTK := Lib.hid (show (A ++ [mkA d]).take K = A.take K by rw [List.take_append_of_le_length (by omega)])
        have HNA := Lib.hid hnA
        clear hnA
        go_wp2_with fail
        go_roundw
        case rel => exact ⟨k + 1, A ++ [mkA d], by omega, by go_num, by rw [HTK.out]; exact Lib.hid HK5.out.t, Lib.hid (by have := HAL.out; rw [List.length_append]; simp; omega)⟩
        case measure => simp [intOf]; omega


    · obtain rfl : k = m.length := by omega
      clear hlt
      have HKI := Lib.hid (show I64 (K : Int) from ⟨by omega, by omega⟩)
      go_wp2_with fail
      refine (HDk.out.op (i := 0) rfl (fun M D hX => Crash_calls wr p M D _ (K : Int) 0 hX HKI.out i0)).mono ?_
      rw [show (crashS (baseS r L A) (K : Int) 0).1 = 0 from rfl]
      rintro e wa ⟨rfl, HDa⟩
      change Hid (DkS_ w wa [(p, fallS (baseS r L A) (K : Int) 0), (q, baseS r L (A.take K))]) at HDa
      rw [base_fall] at HDa
      go_wp2_with fail
      refine (HDa.out.op (i := 0) rfl (fun M D hX => Start_calls wa p M D _ hX)).mono ?_
      rintro e wb ⟨rfl, HDb⟩
      change Hid (DkS_ w wb [(p, ⟨false, 0, 0, 0, r, runA L (A.take K), []⟩), (q, baseS r L (A.take K))]) at HDb
      go_wp2_with fail
      refine (same_calls w wb _ 1 0 q p _ _ HDb.out rfl rfl rfl rfl).mono ?_
      rintro e wc ⟨rfl, HDc⟩
      go_wp2_with fail
      refine (awake_calls wc).mono ?_
      rintro e wz ⟨rfl, hx⟩
      have HXZ := Lib.hid (HDc.out.ext.trans hx)
      clear hx
      go_wp2_with fail
      go_ret
      exact ⟨rfl, HXZ.out⟩

end Go.Proofs.Ytjjhmknlhfijjaa
