/-
  Texts of this claim, put together: DiskStruck.
-/
import Derived.Test.YtjjhmknlhfijjaaZ13
set_option linter.unusedVariables false
set_option linter.unusedSimpArgs false
namespace Go.Proofs.Ytjjhmknlhfijjaa
open Go.RowKit

/-- An armed disk. -/
def armedS (r : Int) (L : KL Nam) (A : List ActS) (N : Nat) (keep tear : Int) : DkS := ⟨false, N, keep, tear, r, L, A⟩
theorem armed_like (r : Int) (L : KL Nam) (A : List ActS) (N : Nat) (keep tear : Int) : Like (armedS r L A N keep tear) (baseS r L A) := ⟨rfl, rfl, rfl, rfl⟩
theorem armed_does (r : Int) (L : KL Nam) (A : List ActS) (N : Nat) (keep tear : Int) {d : DoS} (h : IsAct d) (hN : 1 ≤ N) : doesS (armedS r L A N keep tear) d =
    if codeF (baseS r L A) d = 0 then (if N = 1 then (22, fallS (baseS r L (A ++ [mkA d])) keep tear) else (0, armedS r L (A ++ [mkA d]) (N - 1) keep tear)) else (codeF (baseS r L A) d, armedS r L A N keep tear) := by
  rw [does_act h, (armed_like r L A N keep tear).code]
  by_cases hc : codeF (baseS r L A) d = 0
  · rw [if_pos hc, if_pos hc]
    unfold pushS hitB hitS
    by_cases h1 : N = 1
    · subst h1
      rfl
    · have e1 : (putA (armedS r L A N keep tear) (mkA d)).left = (N : Int) := rfl
      have e2 : (armedS r L A N keep tear).left = (N : Int) := rfl
      rw [e1, e2, if_neg h1, decide_eq_false (show ¬ ((N : Int) = 1) by omega), if_neg (by decide), if_neg (show ¬ ((N : Int) = 0) by omega)]
      show (_, ({ putA (armedS r L A N keep tear) (mkA d) with left := (N : Int) - 1 } : DkS)) = _
      rw [show ((N : Int) - 1) = ((N - 1 : Nat) : Int) by omega]
      rfl
  · rw [if_neg hc, if_neg hc]
theorem armed_sync (r : Int) (L : KL Nam) (A : List ActS) (N : Nat) (keep tear : Int) (hN : 1 ≤ N) : syncS (armedS r L A N keep tear) =
    if N = 1 then (22, fallS (baseS r L A) keep tear) else (0, armedS r (runA L A) [] (N - 1) keep tear) := by
  unfold syncS hitB hitS
  by_cases h1 : N = 1
  · subst h1
    rfl
  · have e2 : (armedS r L A N keep tear).left = (N : Int) := rfl
    rw [if_neg (show ¬ ((armedS r L A N keep tear).off = true) from fun h => by cases h), e2, if_neg h1, decide_eq_false (show ¬ ((N : Int) = 1) by omega), if_neg (show ¬ (false = true) by decide), if_neg (show ¬ ((N : Int) = 0) by omega)]
    show (_, (⟨false, (N : Int) - 1, keep, tear, r, runA L A, []⟩ : DkS)) = _
    rw [show ((N : Int) - 1) = ((N - 1 : Nat) : Int) by omega]
    rfl
theorem base_sync (r : Int) (L : KL Nam) (A : List ActS) : syncS (baseS r L A) = (0, baseS r (runA L A) []) := rfl
def n120 (x : Int) : Int := wrap64 ((IntKind.u64.wrap x).tmod 120)
theorem n120_nat (x : Int) : ∃ k : Nat, n120 x = (k : Int) ∧ k < 120 := by
  unfold n120
  have hq : 0 ≤ IntKind.u64.wrap x := by rw [IntKind.wrap_u64]; omega
  rw [Int.tmod_eq_emod_of_nonneg hq]
  have h3 := Int.emod_nonneg (IntKind.u64.wrap x) (show (120 : Int) ≠ 0 by omega)
  have h4 := Int.emod_lt_of_pos (IntKind.u64.wrap x) (show (0 : Int) < 120 by omega)
  generalize (IntKind.u64.wrap x) % 120 = y at h3 h4
  rw [IntWalk.wrap64_in _ (by omega)]
  exact ⟨y.toNat, by omega, by omega⟩
theorem fall_start (r : Int) (L : KL Nam) (A : List ActS) (keep tear : Int) : (startS (fallS (baseS r L A) keep tear)).off = false := rfl
set_option maxRecDepth 100000 in
set_option maxHeartbeats 1600000 in
theorem DiskStruck_walk (w : World) (room : Int) (hroom : -9223372036854775808 ≤ room ∧ room ≤ 9223372036854775807) (S1 : Nat → Prop) (v1 : Value) (l : List DoS) (h1 : Rs kDDo w S1 v1 l) (S2 : Nat → Prop) (v2 : Value) (m : List DoS) (h2 : Rs kDDo w S2 v2 m) (n : Int) (hn : -9223372036854775808 ≤ n ∧ n ≤ 9223372036854775807) (keep : Int) (hkeep : -9223372036854775808 ≤ keep ∧ keep ≤ 9223372036854775807) (tear : Int) (htear : -9223372036854775808 ≤ tear ∧ tear ≤ 9223372036854775807) :
    Calls Try.prog 8 #[.int .i64 room, v1, v2, .int .i64 n, .int .i64 keep, .int .i64 tear] w fun e w' => e = .returned (.bool true) ∧ Ext w w' := by
  obtain ⟨A2, c2, e, -, -, -, hrw⟩ := id h2.under
  subst e
  have HRW := Lib.hid hrw
  have HL2 := Lib.hid h2
  have HKE := Lib.hid (show I64 keep from hkeep)
  have HTE := Lib.hid (show I64 tear from htear)
  clear h2 hrw hroom hkeep htear hn
  obtain ⟨A1, c1, e, -⟩ := id h1
  subst e
  have HL1 := Lib.hid h1
  clear h1
  have HMD := Lib.hid (made_calls w w [] room S1 _ l (DkS_.nil w) HL1.out)
  go_enter Try.func8, Try.ntmps8
  go_wp2_with fail
  refine HMD.out.mono ?_
  rintro e w1 ⟨p, s, rfl, HD1, HS1⟩
  unfold ptr
  simp only [List.nil_append] at HD1
  by_cases hs : shortF l = true
  case neg =>
    have hs' : shortF l = false := by simpa using hs
    rw [hs']
    clear hs hs'
    go_wp2_with fail
    refine (awake_calls w1).mono ?_
    rintro e w2 ⟨rfl, hx⟩
    have HX := Lib.hid (HD1.out.ext.trans hx)
    clear hx
    go_wp2_with fail
    go_ret
    exact ⟨rfl, HX.out⟩
  have hs0 := HS1.out hs
  have HLN := Lib.hid (show s.acts.length ≤ 120 by
    rw [hs0]
    have h1 := foldD_len l (newS (room20 room))
    have h2 := short_len hs
    have h3 : (newS (room20 room)).acts.length = 0 := rfl
    unfold madeS
    omega)
  have HRM := Lib.hid (show s.room < 1048576 by rw [hs0]; exact madeS_room room l)
  have HS := Lib.hid hs
  rw [hs]
  clear hs hs0 HMD
  go_wp2_with fail
  refine (short_calls w1 _ _ m (HL2.out.ext HD1.out.ext)).mono ?_
  rintro e w' ⟨rfl, rfl⟩
  by_cases hs2 : shortF m = true
  case neg =>
    have hs' : shortF m = false := by simpa using hs2
    rw [hs']
    clear hs2 hs'
    go_wp2_with fail
    refine (awake_calls w1).mono ?_
    rintro e wz ⟨rfl, hx⟩
    have HXZ := Lib.hid (HD1.out.ext.trans hx)
    clear hx
    go_wp2_with fail
    go_ret
    exact ⟨rfl, HXZ.out⟩

  have HSL2 := Lib.hid (short_len hs2)
  rw [hs2]
  clear hs2
  go_wp2_with fail
  refine (HD1.out.op (i := 0) rfl (fun M D hX => Start_calls w1 p M D s hX)).mono ?_
  rintro e wa ⟨rfl, HDa⟩
  change Hid (DkS_ w wa [(p, startS s)]) at HDa
  go_wp2_with fail
  refine (HDa.out.twin (i := 0) rfl (show (startS s).acts.length ≤ 1000000 from by have := HLN.out; show s.acts.length ≤ 1000000; omega)).mono ?_
  rintro e w5 ⟨q, rfl, HD5, -⟩
  change Hid (DkS_ w w5 [(p, startS s), (q, startS s)]) at HD5
  unfold ptr
  have hkp : wrap64 ((IntKind.u64.wrap n).tmod 120) = n120 n := rfl
  obtain ⟨n0, hn0, hn1⟩ := n120_nat n
  rw [hn0] at hkp
  clear hn0
  have HN1 := Lib.hid hn1
  have hn2 : (n0 : Int) ≤ 119 := by omega
  clear hn1
  go_upto_region 7 with fail
  try rw [hkp]
  clear hkp
  obtain ⟨N, hN⟩ : ∃ N, N = n0 + 1 := ⟨_, rfl⟩
  have hwr : wrap64 (1 + (n0 : Int)) = (N : Int) := by rw [IntWalk.wrap64_in _ (by omega)]; omega
  have hwr2 : (n0 : Int) + 1 = (N : Int) := by omega
  have hwr3 : 1 + (n0 : Int) = (N : Int) := by omega
  have hN1 : 1 ≤ N ∧ N ≤ 120 := by omega
  first | rw [hwr] | rw [hwr2] | rw [hwr3]
  clear hwr hwr2 hwr3 hN hn2
  have HNI := Lib.hid (show I64 (N : Int) from ⟨by omega, by omega⟩)
  have HAR := Lib.hid (show armS (startS s) (N : Int) keep tear = (0, armedS s.room s.last s.acts N keep tear) by
    show ((0 : Int), (⟨false, max (N : Int) 0, keep, tear, s.room, s.last, s.acts⟩ : DkS)) = _
    rw [Int.max_eq_left (by omega)]
    rfl)
  go_wp2_with fail
  refine (HD5.out.op (i := 0) rfl (fun M D hX => Arm_calls w5 p M D (startS s) (N : Int) keep tear hX HNI.out HKE.out HTE.out)).mono ?_
  rw [HAR.out]
  rintro e w6 ⟨rfl, HD6⟩
  change Hid (DkS_ w w6 [(p, armedS s.room s.last s.acts N keep tear), (q, startS s)]) at HD6
  go_wp2_with fail
  refine (HD6.out.op (i := 1) rfl (fun M D hX => Arm_calls w6 q M D (startS s) 0 0 0 hX i0 i0 i0)).mono ?_
  rw [calm_code]
  rintro e w7 ⟨rfl, HD7⟩
  change Hid (DkS_ w w7 [(p, armedS s.room s.last s.acts N keep tear), (q, baseS s.room s.last s.acts)]) at HD7
  go_wp2_with fail
  obtain ⟨r, hr⟩ : ∃ r, r = s.room := ⟨_, rfl⟩
  obtain ⟨L0, hL⟩ : ∃ L, L = s.last := ⟨_, rfl⟩
  obtain ⟨A0, hA⟩ : ∃ A, A = s.acts := ⟨_, rfl⟩
  rw [← hr, ← hL, ← hA] at HD7
  rw [← hA] at HLN
  clear hr hL hA HDa HD1 HD5 HD6 HS1 HAR HNI
  go_loopw [16, 53] (fun dn i wr => ∃ (k j : Nat) (L : KL Nam) (A : List ActS), k ≤ m.length ∧ i = .int .i64 k ∧ dn = .int .i64 j ∧ j < N ∧ Hid (DkS_ w wr [(p, armedS r L A (N - j) keep tear), (q, baseS r L A)]) ∧ Hid (A.length ≤ 120 + k)) (fun _ i _ => m.length - (intOf i).toNat)
  case atStart => exact ⟨0, 0, L0, A0, Nat.zero_le _, rfl, rfl, by omega, HD7, HLN⟩
  case round =>
    clear HD7
    obtain ⟨k, j, L, A, hk, rfl, rfl, hjN, HDk, HAL⟩ := hrel
    have hmb : m.length ≤ 120 := HSL2.out
    by_cases hlt : k < m.length
    · obtain ⟨ad, Ab, cb, rfl, hbl, hi, hb, x0, x1, x2, x3, x4, x5, x6, x7⟩ := (HRW.out.keep (w' := wr) fun b _ hl => HDk.out.ext.block b hl).ddo hlt
      have HI := Lib.hid hi
      have HB := Lib.hid hb
      obtain ⟨d, hdd⟩ : ∃ d, d = m[k] := ⟨_, rfl⟩
      rw [← hdd] at HI HB x0 x1 x2 x3 x4 x5 x6 x7
      have HDD := Lib.hid hdd
      clear hi hb hdd
      go_upto_region 13 with fail
      obtain ⟨w2, hw2⟩ : ∃ w2, w2 = wr.alloc (.cells (doC d (.slice Ab d.b.length cb)) 43) := ⟨_, rfl⟩
      obtain ⟨g, hg⟩ : ∃ g, g = wr.heap.size := ⟨_, rfl⟩
      have hx2 : Ext wr w2 := by rw [hw2]; exact (Ext.refl _).alloc _
      have hb2 := HB.out.ext hx2
      have hg2 : w2.heap[g]? = some (.cells (doC d (.slice Ab d.b.length cb)) 43 (0, 0)) := by rw [hw2]; exact heap_new wr g hg.symm _
      have hk2 := HDk.out.box hx2
      have hbox : BoxD w2 (BoxK w wr w2) g d Ab cb := ⟨.inr ⟨by omega, blk_lt hg2⟩, hg2, hb2.mono fun k hk => .inl hk, HI.out⟩
      obtain ⟨K0, hK0⟩ : ∃ K0, K0 = BoxK w wr w2 := ⟨_, rfl⟩
      rw [← hK0] at hk2 hbox
      have HK2 := Lib.hid hk2
      have HBX2 := Lib.hid hbox
      unfold doC at hw2
      rw [← hw2, ← hg]
      clear hw2 hg hx2 hb2 hg2 hk2 hbox hK0 x0 x1 x2 x3 x4 x5 x6 x7
      obtain ⟨x0, x1, x2, x3, x4, x5, x6, x7⟩ := do_cells HBX2.out.blk
      have hgl := blk_lt HBX2.out.blk
      have ho : wrap64 ((IntKind.u64.wrap d.op).tmod 10) = op10 d.op := rfl
      obtain ⟨o, hoo⟩ : ∃ o, o = op10 d.op := ⟨_, rfl⟩
      rw [← hoo] at ho
      have HOO := Lib.hid hoo
      have HLA := Lib.hid (show (armedS r L A (N - j) keep tear).acts.length ≤ 1000000 by show A.length ≤ 1000000; have := HAL.out; omega)
      have HLB := Lib.hid (show (baseS r L A).acts.length ≤ 1000000 by show A.length ≤ 1000000; have := HAL.out; omega)
      clear hoo
      by_cases h6 : 6 < o
      · have hd : decide (6 < o) = true := decide_eq_true h6
        go_wp2_with fail
        go_roundw
        case rel => exact ⟨k + 1, j, L, A, by omega, by go_num, by go_num, by omega, Lib.hid HK2.out.t, Lib.hid (by have := HAL.out; omega)⟩
        case measure => simp [intOf]; omega

      have hd : decide (6 < o) = false := decide_eq_false h6
      by_cases hs : o = 6
      · have hlt6 : decide (o < 6) = false := decide_eq_false (by omega)
        have HSY := Lib.hid (show op10 d.op = 6 by rw [← HOO.out]; exact hs)
        have HEc := Lib.hid (show doesS (baseS r L A) d = (0, baseS r (runA L A) []) by rw [does_sync HSY.out, base_sync])
        by_cases h1 : N - j = 1
        · have HE := Lib.hid (show doesS (armedS r L A (N - j) keep tear) d = (22, fallS (baseS r L A) keep tear) by rw [does_sync HSY.out, armed_sync _ _ _ _ _ _ (by omega), if_pos h1])
          have hjn : ((j : Int) == (N : Int) - 1) = true := beq_iff_eq.2 (by omega)
          clear hs h6 h1
          go_wp2_with fail
          refine (HK2.out.op2 (i := 0) rfl (fun M D hX => does_calls w2 p M D _ _ d _ hX HBX2.out.ok HBX2.out.bytes HLA.out)).mono ?_
          rw [HE.out]
          rintro e w4 ⟨rfl, HK4, HKB4⟩
          change Hid (DkK w w4 [(p, fallS (baseS r L A) keep tear), (q, baseS r L A)] K0) at HK4
          have HBX4 := Lib.hid (HBX2.out.kept HKB4.out)
          clear x0 x1 x2 x3 x4 x5 x6 x7 hgl
          go_wp2_with fail
          have HD4 := Lib.hid HK4.out.t
          refine (HD4.out.op (i := 1) rfl (fun M D hX => Crash_calls w4 q M D _ keep tear hX HKE.out HTE.out)).mono ?_
          rw [show (crashS (baseS r L A) keep tear).1 = 0 from rfl]
          rintro e w5 ⟨rfl, HD5⟩
          change Hid (DkS_ w w5 [(p, fallS (baseS r L A) keep tear), (q, fallS (baseS r L A) keep tear)]) at HD5
          go_wp2_with fail
          refine (HD5.out.op (i := 0) rfl (fun M D hX => Start_calls w5 p M D _ hX)).mono ?_
          rintro e wx ⟨rfl, HDx⟩
          change Hid (DkS_ w wx [(p, startS (fallS (baseS r L A) keep tear)), (q, fallS (baseS r L A) keep tear)]) at HDx
          go_wp2_with fail
          refine (HDx.out.op (i := 1) rfl (fun M D hX => Start_calls wx q M D _ hX)).mono ?_
          rintro e wy ⟨rfl, HDy⟩
          change Hid (DkS_ w wy [(p, startS (fallS (baseS r L A) keep tear)), (q, startS (fallS (baseS r L A) keep tear))]) at HDy
          go_wp2_with fail
          refine (same_calls w wy _ 1 0 q p _ _ HDy.out rfl rfl rfl rfl).mono ?_
          rintro e wv ⟨rfl, HDv⟩
          go_wp2_with fail
          refine (awake_calls wv).mono ?_
          rintro e wz ⟨rfl, hx⟩
          have HXZ := Lib.hid (HDv.out.ext.trans hx)
          clear hx
          go_wp2_with fail
          go_ret
          exact ⟨rfl, HXZ.out⟩

        · have HE := Lib.hid (show doesS (armedS r L A (N - j) keep tear) d = (0, armedS r (runA L A) [] (N - (j + 1)) keep tear) by rw [does_sync HSY.out, armed_sync _ _ _ _ _ _ (by omega), if_neg h1, show N - j - 1 = N - (j + 1) by omega])
          clear hs h6
          go_wp2_with fail
          refine (HK2.out.op2 (i := 0) rfl (fun M D hX => does_calls w2 p M D _ _ d _ hX HBX2.out.ok HBX2.out.bytes HLA.out)).mono ?_
          rw [HE.out]
          rintro e w4 ⟨rfl, HK4, HKB4⟩
          change Hid (DkK w w4 [(p, armedS r (runA L A) [] (N - (j + 1)) keep tear), (q, baseS r L A)] K0) at HK4
          have HBX4 := Lib.hid (HBX2.out.kept HKB4.out)
          clear x0 x1 x2 x3 x4 x5 x6 x7 hgl
          obtain ⟨x0, x1, x2, x3, x4, x5, x6, x7⟩ := do_cells HBX4.out.blk
          have hgl := blk_lt HBX4.out.blk
          go_wp2_with fail
          refine (HK4.out.op2 (i := 1) rfl (fun M D hX => does_calls w4 q M D _ _ d _ hX HBX4.out.ok HBX4.out.bytes HLB.out)).mono ?_
          rw [HEc.out]
          rintro e w5 ⟨rfl, HK5, HKB5⟩
          change Hid (DkK w w5 [(p, armedS r (runA L A) [] (N - (j + 1)) keep tear), (q, baseS r (runA L A) [])] K0) at HK5
          have HBX5 := Lib.hid (HBX4.out.kept HKB5.out)
          clear x0 x1 x2 x3 x4 x5 x6 x7 hgl
          go_wp2_with fail
          go_roundw
          case rel => exact ⟨k + 1, j + 1, runA L A, [], by omega, by go_num, by go_num, by omega, Lib.hid HK5.out.t, Lib.hid (by simp)⟩
          case measure => simp [intOf]; omega

      have hlt6 : decide (o < 6) = true := decide_eq_true (by omega)
      have HA := Lib.hid (show IsAct d from isAct_of (by rw [← HOO.out]; omega))
      by_cases hc : codeF (baseS r L A) d = 0
      case neg =>
        have HE := Lib.hid (show doesS (armedS r L A (N - j) keep tear) d = (codeF (baseS r L A) d, armedS r L A (N - j) keep tear) by rw [armed_does _ _ _ _ _ _ HA.out (by omega), if_neg hc])
        have HEc := Lib.hid (show doesS (baseS r L A) d = (codeF (baseS r L A) d, baseS r L A) by rw [base_does r L A HA.out, if_neg hc])
        have hc22 := code_22 (s := baseS r L A) rfl d
        obtain ⟨cc, hcc⟩ : ∃ cc, cc = codeF (baseS r L A) d := ⟨_, rfl⟩
        rw [← hcc] at HE HEc hc hc22
        have hcb : (cc == 0) = false := beq_eq_false_iff_ne.2 hc
        have hcb2 : (cc == 22) = false := beq_eq_false_iff_ne.2 hc22
        have hcb3 : (cc != cc) = false := by simp
        clear hcc hc hc22 hs h6
        go_wp2_with fail
        refine (HK2.out.op2 (i := 0) rfl (fun M D hX => does_calls w2 p M D _ _ d _ hX HBX2.out.ok HBX2.out.bytes HLA.out)).mono ?_
        rw [HE.out]
        rintro e w4 ⟨rfl, HK4, HKB4⟩
        change Hid (DkK w w4 [(p, armedS r L A (N - j) keep tear), (q, baseS r L A)] K0) at HK4
        have HBX4 := Lib.hid (HBX2.out.kept HKB4.out)
        clear x0 x1 x2 x3 x4 x5 x6 x7 hgl
        obtain ⟨x0, x1, x2, x3, x4, x5, x6, x7⟩ := do_cells HBX4.out.blk
        have hgl := blk_lt HBX4.out.blk
        go_wp2_with fail
        refine (HK4.out.op2 (i := 1) rfl (fun M D hX => does_calls w4 q M D _ _ d _ hX HBX4.out.ok HBX4.out.bytes HLB.out)).mono ?_
        rw [HEc.out]
        rintro e w5 ⟨rfl, HK5, HKB5⟩
        change Hid (DkK w w5 [(p, armedS r L A (N - j) keep tear), (q, baseS r L A)] K0) at HK5
        have HBX5 := Lib.hid (HBX4.out.kept HKB5.out)
        clear x0 x1 x2 x3 x4 x5 x6 x7 hgl
        go_wp2_with fail
        go_roundw
        case rel => exact ⟨k + 1, j, L, A, by omega, by go_num, by go_num, by omega, Lib.hid HK5.out.t, Lib.hid (by have := HAL.out; omega)⟩
        case measure => simp [intOf]; omega

      have HEc := Lib.hid (show doesS (baseS r L A) d = (0, baseS r L (A ++ [mkA d])) by rw [base_does r L A HA.out, if_pos hc])
      by_cases h1 : N - j = 1
      · have HE := Lib.hid (show doesS (armedS r L A (N - j) keep tear) d = (22, fallS (baseS r L (A ++ [mkA d])) keep tear) by rw [armed_does _ _ _ _ _ _ HA.out (by omega), if_pos hc, if_pos h1])
        have hjn : ((j : Int) == (N : Int) - 1) = true := beq_iff_eq.2 (by omega)
        clear hs h6 h1 hc
        go_wp2_with fail
        refine (HK2.out.op2 (i := 0) rfl (fun M D hX => does_calls w2 p M D _ _ d _ hX HBX2.out.ok HBX2.out.bytes HLA.out)).mono ?_
        rw [HE.out]
        rintro e w4 ⟨rfl, HK4, HKB4⟩
        change Hid (DkK w w4 [(p, fallS (baseS r L (A ++ [mkA d])) keep tear), (q, baseS r L A)] K0) at HK4
        have HBX4 := Lib.hid (HBX2.out.kept HKB4.out)
        clear x0 x1 x2 x3 x4 x5 x6 x7 hgl
        obtain ⟨x0, x1, x2, x3, x4, x5, x6, x7⟩ := do_cells HBX4.out.blk
        have hgl := blk_lt HBX4.out.blk
        go_wp2_with fail
        refine (HK4.out.op2 (i := 1) rfl (fun M D hX => does_calls w4 q M D _ _ d _ hX HBX4.out.ok HBX4.out.bytes HLB.out)).mono ?_
        rw [HEc.out]
        rintro e w6 ⟨rfl, HK6, HKB6⟩
        change Hid (DkK w w6 [(p, fallS (baseS r L (A ++ [mkA d])) keep tear), (q, baseS r L (A ++ [mkA d]))] K0) at HK6
        have HBX6 := Lib.hid (HBX4.out.kept HKB6.out)
        clear x0 x1 x2 x3 x4 x5 x6 x7 hgl
        go_wp2_with fail
        have HD6 := Lib.hid HK6.out.t
        refine (HD6.out.op (i := 1) rfl (fun M D hX => Crash_calls w6 q M D _ keep tear hX HKE.out HTE.out)).mono ?_
        rw [show (crashS (baseS r L (A ++ [mkA d])) keep tear).1 = 0 from rfl]
        rintro e w5 ⟨rfl, HD5⟩
        change Hid (DkS_ w w5 [(p, fallS (baseS r L (A ++ [mkA d])) keep tear), (q, fallS (baseS r L (A ++ [mkA d])) keep tear)]) at HD5
        go_wp2_with fail
        refine (HD5.out.op (i := 0) rfl (fun M D hX => Start_calls w5 p M D _ hX)).mono ?_
        rintro e wx ⟨rfl, HDx⟩
        change Hid (DkS_ w wx [(p, startS (fallS (baseS r L (A ++ [mkA d])) keep tear)), (q, fallS (baseS r L (A ++ [mkA d])) keep tear)]) at HDx
        go_wp2_with fail
        refine (HDx.out.op (i := 1) rfl (fun M D hX => Start_calls wx q M D _ hX)).mono ?_
        rintro e wy ⟨rfl, HDy⟩
        change Hid (DkS_ w wy [(p, startS (fallS (baseS r L (A ++ [mkA d])) keep tear)), (q, startS (fallS (baseS r L (A ++ [mkA d])) keep tear))]) at HDy
        go_wp2_with fail
        refine (same_calls w wy _ 1 0 q p _ _ HDy.out rfl rfl rfl rfl).mono ?_
        rintro e wv ⟨rfl, HDv⟩
        go_wp2_with fail
        refine (awake_calls wv).mono ?_
        rintro e wz ⟨rfl, hx⟩
        have HXZ := Lib.hid (HDv.out.ext.trans hx)
        clear hx
        go_wp2_with fail
        go_ret
        exact ⟨rfl, HXZ.out⟩

      have HE := Lib.hid (show doesS (armedS r L A (N - j) keep tear) d = (0, armedS r L (A ++ [mkA d]) (N - (j + 1)) keep tear) by rw [armed_does _ _ _ _ _ _ HA.out (by omega), if_pos hc, if_neg h1, show N - j - 1 = N - (j + 1) by omega])
      clear hs h6 hc
      go_wp2_with fail
      refine (HK2.out.op2 (i := 0) rfl (fun M D hX => does_calls w2 p M D _ _ d _ hX HBX2.out.ok HBX2.out.bytes HLA.out)).mono ?_
      rw [HE.out]
      rintro e w4 ⟨rfl, HK4, HKB4⟩
      change Hid (DkK w w4 [(p, armedS r L (A ++ [mkA d]) (N - (j + 1)) keep tear), (q, baseS r L A)] K0) at HK4
      have HBX4 := Lib.hid (HBX2.out.kept HKB4.out)
      clear x0 x1 x2 x3 x4 x5 x6 x7 hgl
      obtain ⟨x0, x1, x2, x3, x4, x5, x6, x7⟩ := do_cells HBX4.out.blk
      have hgl := blk_lt HBX4.out.blk
      go_wp2_with fail
      refine (HK4.out.op2 (i := 1) rfl (fun M D hX => does_calls w4 q M D _ _ d _ hX HBX4.out.ok HBX4.out.bytes HLB.out)).mono ?_
      rw [HEc.out]
      rintro e w5 ⟨rfl, HK5, HKB5⟩
      change Hid (DkK w w5 [(p, armedS r L (A ++ [mkA d]) (N - (j + 1)) keep tear), (q, baseS r L (A ++ [mkA d]))] K0) at HK5
      have HBX5 := Lib.hid (HBX4.out.kept HKB5.out)
      clear x0 x1 x2 x3 x4 x5 x6 x7 hgl
      go_wp2_with fail
      go_roundw
      case rel => exact ⟨k + 1, j + 1, L, A ++ [mkA d], by omega, by go_num, by go_num, by omega, Lib.hid HK5.out.t, Lib.hid (by have := HAL.out; rw [List.length_append]; simp; omega)⟩
      case measure => simp [intOf]; omega

    · obtain rfl : k = m.length := by omega
      have hjd : decide ((j : Int) < (N : Int)) = true := decide_eq_true (by omega)
      clear hlt
      go_wp2_with fail
      refine (same_calls w wr _ 1 0 q p _ _ HDk.out rfl rfl rfl rfl).mono ?_
      rintro e wc ⟨rfl, HDc⟩
      go_wp2_with fail
      refine (awake_calls wc).mono ?_
      rintro e wz ⟨rfl, hx⟩
      have HXZ := Lib.hid (HDc.out.ext.trans hx)
      clear hx
      go_wp2_with fail
      go_ret
      exact ⟨rfl, HXZ.out⟩

end Go.Proofs.Ytjjhmknlhfijjaa
