/-
  Texts of this claim, put together: DiskTwins.
-/
import Derived.Test.YtjjhmknlhfijjaaZ13
import Derived.Test.YtjjhmknlhfijjaaZ15
import Derived.Test.YtjjhmknlhfijjaaZ3
set_option linter.unusedVariables false
set_option linter.unusedSimpArgs false
namespace Go.Proofs.Ytjjhmknlhfijjaa
open Go.RowKit

theorem cell_ext {w W : World} {a : Addr} {v : Value} (h : w.cell? a = some v) (hb : a.block < w.heap.size) (he : Ext w W) : W.cell? a = some v := by
  rw [World.cell?_of_block (w := w) (he.block a.block hb)]
  exact h
set_option maxRecDepth 100000 in
set_option maxHeartbeats 1600000 in
theorem DiskTwins_walk (w : World) (room : Int) (hroom : -9223372036854775808 ≤ room ∧ room ≤ 9223372036854775807) (S1 : Nat → Prop) (v1 : Value) (l : List DoS) (h1 : Rs kDDo w S1 v1 l) (S2 : Nat → Prop) (v2 : Value) (one : List DoS) (h2 : Rs kDDo w S2 v2 one) (S3 : Nat → Prop) (v3 : Value) (two : List DoS) (h3 : Rs kDDo w S3 v3 two) :
    Calls Try.prog 9 #[.int .i64 room, v1, v2, v3] w fun e w' => e = .returned (.bool true) ∧ Ext w w' := by
  obtain ⟨A2, c2, e, -, -, -, hrw2⟩ := id h2.under
  subst e
  obtain ⟨A3, c3, e, -, -, -, hrw3⟩ := id h3.under
  subst e
  have HRW2 := Lib.hid hrw2
  have HRW3 := Lib.hid hrw3
  have HL2 := Lib.hid h2
  have HL3 := Lib.hid h3
  clear h2 h3 hrw2 hrw3 hroom
  obtain ⟨A1, c1, e, -⟩ := id h1
  subst e
  have HL1 := Lib.hid h1
  clear h1
  have HMD := Lib.hid (made_calls w w [] room S1 _ l (DkS_.nil w) HL1.out)
  go_enter Try.func9, Try.ntmps9
  go_wp2_with fail
  refine HMD.out.mono ?_
  rintro e w1 ⟨p, s, rfl, HD1, HS1⟩
  unfold ptr
  simp only [List.nil_append] at HD1
  by_cases hs : shortF l = true
  case neg =>
    have hs' : shortF l = false := by simpa using hs
    rw [hs']
    clear hs hs'
    go_wp2_with fail
    refine (awake_calls w1).mono ?_
    rintro e w2 ⟨rfl, hx⟩
    have HX := Lib.hid (HD1.out.ext.trans hx)
    clear hx
    go_wp2_with fail
    go_ret
    exact ⟨rfl, HX.out⟩
  have hs0 := HS1.out hs
  have HLN := Lib.hid (show s.acts.length ≤ 120 by
    rw [hs0]
    have h1 := foldD_len l (newS (room20 room))
    have h2 := short_len hs
    have h3 : (newS (room20 room)).acts.length = 0 := rfl
    unfold madeS
    omega)
  have HS := Lib.hid hs
  rw [hs]
  have HSM := Lib.hid hs0
  clear hs hs0 HMD
  go_wp2_with fail
  refine (short_calls w1 _ _ one (HL2.out.ext HD1.out.ext)).mono ?_
  rintro e w' ⟨rfl, rfl⟩
  by_cases hs2 : shortF one = true
  case neg =>
    have hs' : shortF one = false := by simpa using hs2
    rw [hs']
    clear hs2 hs'
    go_wp2_with fail
    refine (awake_calls w1).mono ?_
    rintro e wz ⟨rfl, hx⟩
    have HXZ := Lib.hid (HD1.out.ext.trans hx)
    clear hx
    go_wp2_with fail
    go_ret
    exact ⟨rfl, HXZ.out⟩

  have HSL2 := Lib.hid (short_len hs2)
  rw [hs2]
  clear hs2
  go_wp2_with fail
  refine (short_calls w1 _ _ two (HL3.out.ext HD1.out.ext)).mono ?_
  rintro e w' ⟨rfl, rfl⟩
  by_cases hs3 : shortF two = true
  case neg =>
    have hs' : shortF two = false := by simpa using hs3
    rw [hs']
    clear hs3 hs'
    go_wp2_with fail
    refine (awake_calls w1).mono ?_
    rintro e wz ⟨rfl, hx⟩
    have HXZ := Lib.hid (HD1.out.ext.trans hx)
    clear hx
    go_wp2_with fail
    go_ret
    exact ⟨rfl, HXZ.out⟩

  have HSL3 := Lib.hid (short_len hs3)
  rw [hs3]
  clear hs3
  go_wp2_with fail
  have HLA := Lib.hid (show s.acts.length ≤ 1000000 by have := HLN.out; omega)
  refine (HD1.out.twin (i := 0) rfl HLA.out).mono ?_
  rintro e w2 ⟨q, rfl, HD2, -⟩
  change Hid (DkS_ w w2 [(p, s), (q, s)]) at HD2
  unfold ptr
  go_wp2_with fail
  refine (made_calls w w2 [(p, s), (q, s)] room S1 _ l HD2.out HL1.out).mono ?_
  rintro e w3 ⟨pe, se, rfl, HD3, HS3⟩
  have hse := HS3.out HS.out
  rw [← HSM.out] at hse
  subst hse
  rw [HS.out]
  change Hid (DkS_ w w3 [(p, se), (q, se), (pe, se)]) at HD3
  unfold ptr
  go_wp2_with fail
  refine (made_calls w w3 [(p, se), (q, se), (pe, se)] room S1 _ l HD3.out HL1.out).mono ?_
  rintro e w4 ⟨pf, sf, rfl, HD4, HS4⟩
  have hsf := HS4.out HS.out
  rw [← HSM.out] at hsf
  subst hsf
  rw [HS.out]
  change Hid (DkS_ w w4 [(p, sf), (q, sf), (pe, sf), (pf, sf)]) at HD4
  unfold ptr
  clear HS1 HS3 HS4 HD1 HD2 HD3
  go_wp2_with fail
  refine (same_calls w w4 _ 1 0 q p _ _ HD4.out rfl rfl rfl rfl).mono ?_
  rintro e w5 ⟨rfl, HD5⟩
  have hpn : (pendF sf != pendF sf) = false := by simp
  have hun : (usedF sf != usedF sf) = false := by simp
  go_wp2_with fail
  refine (HD5.out.look (i := 1) (Q := fun e w' => e = .returned (.int .i64 (pendF sf))) rfl fun M D hx => (Pending_calls w5 q M D _ hx).mono fun e w' ⟨h1, h2⟩ => ⟨h1, h2 ▸ Ext.refl _⟩).mono ?_
  rintro e w6 ⟨rfl, -, HD6⟩
  go_wp2_with fail
  refine (HD6.out.look (i := 0) (Q := fun e w' => e = .returned (.int .i64 (pendF sf))) rfl fun M D hx => (Pending_calls w6 p M D _ hx).mono fun e w' ⟨h1, h2⟩ => ⟨h1, h2 ▸ Ext.refl _⟩).mono ?_
  rintro e w7 ⟨rfl, -, HD7⟩
  go_wp2_with fail
  refine (HD7.out.look (i := 1) (Q := fun e w' => e = .returned (.int .i64 (usedF sf))) rfl fun M D hx => (Used_calls w7 q M D _ hx)).mono ?_
  rintro e w8 ⟨rfl, -, HD8⟩
  go_wp2_with fail
  refine (HD8.out.look (i := 0) (Q := fun e w' => e = .returned (.int .i64 (usedF sf))) rfl fun M D hx => (Used_calls w8 p M D _ hx)).mono ?_
  rintro e w9 ⟨rfl, -, HD9⟩
  clear hpn hun HD4 HD5 HD6 HD7 HD8
  have hm1 : one.length ≤ 120 := HSL2.out
  have hm2 : two.length ≤ 120 := HSL3.out
  obtain ⟨mx, hmx⟩ : ∃ mx, mx = max one.length two.length := ⟨_, rfl⟩
  have hmx2 : max (one.length : Int) (two.length : Int) = (mx : Int) := by omega
  have hmxb : mx ≤ 120 := by omega
  have HMX := Lib.hid hmx
  clear hmx
  go_wp2_with fail
  go_loopw [73] (fun i wr => ∃ (k : Nat) (sc sd : DkS), k ≤ mx ∧ i = .int .i64 k ∧ Hid (DkS_ w wr [(p, sd), (q, sc), (pe, sc), (pf, sd)]) ∧ Hid (sc.acts.length ≤ 120 + k ∧ sd.acts.length ≤ 120 + k)) (fun i _ => mx - (intOf i).toNat)
  case atStart => exact ⟨0, sf, sf, Nat.zero_le _, rfl, HD9, Lib.hid ⟨by have := HLN.out; omega, by have := HLN.out; omega⟩⟩
  case round =>
    clear HD9
    obtain ⟨k, sc, sd, hk, rfl, HDk, HAL⟩ := hrel
    by_cases hlt : k < mx
    · have HLC := Lib.hid (show sc.acts.length ≤ 1000000 by have := HAL.out.1; omega)
      have HLD := Lib.hid (show sd.acts.length ≤ 1000000 by have := HAL.out.2; omega)
      have HDr := Lib.hid (HDk.out.ext_ (Ext.refl wr).drew)
      by_cases hk1 : k < one.length
      · obtain ⟨ad1, Ab1, cb1, rfl, hbl1, hi1, hb1, x10, x11, x12, x13, x14, x15, x16, x17⟩ := HRW2.out.ddo hk1
        have HI1 := Lib.hid hi1
        have HB1 := Lib.hid hb1
        obtain ⟨d1, hdd1⟩ : ∃ d, d = one[k] := ⟨_, rfl⟩
        rw [← hdd1] at HI1 HB1 x10 x11 x12 x13 x14 x15 x16 x17
        have HF1 := Lib.hid (show ∀ W : World, Ext w W → W.cell? (ad1.add (k * 8)) = some (.int .i64 d1.op) ∧ W.cell? ⟨(ad1.add (k * 8)).block, (ad1.add (k * 8)).off + 1, none⟩ = some (.string ⟨d1.name.toArray⟩) ∧ W.cell? ⟨(ad1.add (k * 8)).block, (ad1.add (k * 8)).off + 2, none⟩ = some (.string ⟨d1.to.toArray⟩) ∧ W.cell? ⟨(ad1.add (k * 8)).block, (ad1.add (k * 8)).off + 3, none⟩ = some (.int .i64 d1.at_) ∧ W.cell? ⟨(ad1.add (k * 8)).block, (ad1.add (k * 8)).off + 4, none⟩ = some (.slice Ab1 d1.b.length cb1) ∧ W.cell? ⟨(ad1.add (k * 8)).block, (ad1.add (k * 8)).off + 5, none⟩ = some (.int .i64 d1.n) ∧ W.cell? ⟨(ad1.add (k * 8)).block, (ad1.add (k * 8)).off + 6, none⟩ = some (.int .i64 d1.keep) ∧ W.cell? ⟨(ad1.add (k * 8)).block, (ad1.add (k * 8)).off + 7, none⟩ = some (.int .i64 d1.tear) from fun W he => by
          have hbk : (ad1.add (k * 8)).block < w.heap.size := by rw [addb]; exact hbl1
          exact ⟨cell_ext x10 hbk he, cell_ext x11 hbk he, cell_ext x12 hbk he, cell_ext x13 hbk he, cell_ext x14 hbk he, cell_ext x15 hbk he, cell_ext x16 hbk he, cell_ext x17 hbk he⟩)
        clear hi1 hb1 hdd1 hbl1 x10 x11 x12 x13 x14 x15 x16 x17
        obtain ⟨cc1, hcc1⟩ : ∃ c, c = (doesS sc d1).1 := ⟨_, rfl⟩
        obtain ⟨sn1, hsn1⟩ : ∃ x, x = (doesS sc d1).2 := ⟨_, rfl⟩
        have HE1 := Lib.hid (show doesS sc d1 = (cc1, sn1) by rw [hcc1, hsn1])
        have HLN1 := Lib.hid (show sn1.acts.length ≤ 120 + (k + 1) by rw [hsn1]; have h1 := does_len sc d1; have h2 := HAL.out; omega)
        have hne1 : (cc1 != cc1) = false := by simp
        clear hcc1 hsn1
        by_cases hk2 : k < two.length
        · obtain ⟨ad2, Ab2, cb2, rfl, hbl2, hi2, hb2, x20, x21, x22, x23, x24, x25, x26, x27⟩ := HRW3.out.ddo hk2
          have HI2 := Lib.hid hi2
          have HB2 := Lib.hid hb2
          obtain ⟨d2, hdd2⟩ : ∃ d, d = two[k] := ⟨_, rfl⟩
          rw [← hdd2] at HI2 HB2 x20 x21 x22 x23 x24 x25 x26 x27
          have HF2 := Lib.hid (show ∀ W : World, Ext w W → W.cell? (ad2.add (k * 8)) = some (.int .i64 d2.op) ∧ W.cell? ⟨(ad2.add (k * 8)).block, (ad2.add (k * 8)).off + 1, none⟩ = some (.string ⟨d2.name.toArray⟩) ∧ W.cell? ⟨(ad2.add (k * 8)).block, (ad2.add (k * 8)).off + 2, none⟩ = some (.string ⟨d2.to.toArray⟩) ∧ W.cell? ⟨(ad2.add (k * 8)).block, (ad2.add (k * 8)).off + 3, none⟩ = some (.int .i64 d2.at_) ∧ W.cell? ⟨(ad2.add (k * 8)).block, (ad2.add (k * 8)).off + 4, none⟩ = some (.slice Ab2 d2.b.length cb2) ∧ W.cell? ⟨(ad2.add (k * 8)).block, (ad2.add (k * 8)).off + 5, none⟩ = some (.int .i64 d2.n) ∧ W.cell? ⟨(ad2.add (k * 8)).block, (ad2.add (k * 8)).off + 6, none⟩ = some (.int .i64 d2.keep) ∧ W.cell? ⟨(ad2.add (k * 8)).block, (ad2.add (k * 8)).off + 7, none⟩ = some (.int .i64 d2.tear) from fun W he => by
            have hbk : (ad2.add (k * 8)).block < w.heap.size := by rw [addb]; exact hbl2
            exact ⟨cell_ext x20 hbk he, cell_ext x21 hbk he, cell_ext x22 hbk he, cell_ext x23 hbk he, cell_ext x24 hbk he, cell_ext x25 hbk he, cell_ext x26 hbk he, cell_ext x27 hbk he⟩)
          clear hi2 hb2 hdd2 hbl2 x20 x21 x22 x23 x24 x25 x26 x27
          obtain ⟨cc2, hcc2⟩ : ∃ c, c = (doesS sd d2).1 := ⟨_, rfl⟩
          obtain ⟨sn2, hsn2⟩ : ∃ x, x = (doesS sd d2).2 := ⟨_, rfl⟩
          have HE2 := Lib.hid (show doesS sd d2 = (cc2, sn2) by rw [hcc2, hsn2])
          have HLN2 := Lib.hid (show sn2.acts.length ≤ 120 + (k + 1) by rw [hsn2]; have h1 := does_len sd d2; have h2 := HAL.out; omega)
          have hne2 : (cc2 != cc2) = false := by simp
          clear hcc2 hsn2
          have hd1 : decide ((k : Int) < (one.length : Int)) = true := decide_eq_true (by omega)
          have hd2 : decide ((k : Int) < (two.length : Int)) = true := decide_eq_true (by omega)
          have hki : (k : Int) < (one.length : Int) := by omega
          have hki2 : (k : Int) < (two.length : Int) := by omega
          have hk0 : (0 : Int) ≤ (k : Int) := by omega
          have HS0 := Lib.hid (show ∀ W : World, Ext w W → (fun W => W.cell? (ad1.add (k * 8)) = some (.int .i64 d1.op) ∧ W.cell? ⟨(ad1.add (k * 8)).block, (ad1.add (k * 8)).off + 1, none⟩ = some (.string ⟨d1.name.toArray⟩) ∧ W.cell? ⟨(ad1.add (k * 8)).block, (ad1.add (k * 8)).off + 2, none⟩ = some (.string ⟨d1.to.toArray⟩) ∧ W.cell? ⟨(ad1.add (k * 8)).block, (ad1.add (k * 8)).off + 3, none⟩ = some (.int .i64 d1.at_) ∧ W.cell? ⟨(ad1.add (k * 8)).block, (ad1.add (k * 8)).off + 4, none⟩ = some (.slice Ab1 d1.b.length cb1) ∧ W.cell? ⟨(ad1.add (k * 8)).block, (ad1.add (k * 8)).off + 5, none⟩ = some (.int .i64 d1.n) ∧ W.cell? ⟨(ad1.add (k * 8)).block, (ad1.add (k * 8)).off + 6, none⟩ = some (.int .i64 d1.keep) ∧ W.cell? ⟨(ad1.add (k * 8)).block, (ad1.add (k * 8)).off + 7, none⟩ = some (.int .i64 d1.tear) ∧ W.cell? (ad2.add (k * 8)) = some (.int .i64 d2.op) ∧ W.cell? ⟨(ad2.add (k * 8)).block, (ad2.add (k * 8)).off + 1, none⟩ = some (.string ⟨d2.name.toArray⟩) ∧ W.cell? ⟨(ad2.add (k * 8)).block, (ad2.add (k * 8)).off + 2, none⟩ = some (.string ⟨d2.to.toArray⟩) ∧ W.cell? ⟨(ad2.add (k * 8)).block, (ad2.add (k * 8)).off + 3, none⟩ = some (.int .i64 d2.at_) ∧ W.cell? ⟨(ad2.add (k * 8)).block, (ad2.add (k * 8)).off + 4, none⟩ = some (.slice Ab2 d2.b.length cb2) ∧ W.cell? ⟨(ad2.add (k * 8)).block, (ad2.add (k * 8)).off + 5, none⟩ = some (.int .i64 d2.n) ∧ W.cell? ⟨(ad2.add (k * 8)).block, (ad2.add (k * 8)).off + 6, none⟩ = some (.int .i64 d2.keep) ∧ W.cell? ⟨(ad2.add (k * 8)).block, (ad2.add (k * 8)).off + 7, none⟩ = some (.int .i64 d2.tear)) W from fun W he => ⟨(HF1.out W he).1, (HF1.out W he).2.1, (HF1.out W he).2.2.1, (HF1.out W he).2.2.2.1, (HF1.out W he).2.2.2.2.1, (HF1.out W he).2.2.2.2.2.1, (HF1.out W he).2.2.2.2.2.2.1, (HF1.out W he).2.2.2.2.2.2.2, HF2.out W he⟩)
          have H0 := Lib.hid (HS0.out _ HDr.out.ext)
          go_upto_region 12 with fail
          refine wpF_region (fun W => W.cell? (ad1.add (k * 8)) = some (.int .i64 d1.op) ∧ W.cell? ⟨(ad1.add (k * 8)).block, (ad1.add (k * 8)).off + 1, none⟩ = some (.string ⟨d1.name.toArray⟩) ∧ W.cell? ⟨(ad1.add (k * 8)).block, (ad1.add (k * 8)).off + 2, none⟩ = some (.string ⟨d1.to.toArray⟩) ∧ W.cell? ⟨(ad1.add (k * 8)).block, (ad1.add (k * 8)).off + 3, none⟩ = some (.int .i64 d1.at_) ∧ W.cell? ⟨(ad1.add (k * 8)).block, (ad1.add (k * 8)).off + 4, none⟩ = some (.slice Ab1 d1.b.length cb1) ∧ W.cell? ⟨(ad1.add (k * 8)).block, (ad1.add (k * 8)).off + 5, none⟩ = some (.int .i64 d1.n) ∧ W.cell? ⟨(ad1.add (k * 8)).block, (ad1.add (k * 8)).off + 6, none⟩ = some (.int .i64 d1.keep) ∧ W.cell? ⟨(ad1.add (k * 8)).block, (ad1.add (k * 8)).off + 7, none⟩ = some (.int .i64 d1.tear) ∧ W.cell? (ad2.add (k * 8)) = some (.int .i64 d2.op) ∧ W.cell? ⟨(ad2.add (k * 8)).block, (ad2.add (k * 8)).off + 1, none⟩ = some (.string ⟨d2.name.toArray⟩) ∧ W.cell? ⟨(ad2.add (k * 8)).block, (ad2.add (k * 8)).off + 2, none⟩ = some (.string ⟨d2.to.toArray⟩) ∧ W.cell? ⟨(ad2.add (k * 8)).block, (ad2.add (k * 8)).off + 3, none⟩ = some (.int .i64 d2.at_) ∧ W.cell? ⟨(ad2.add (k * 8)).block, (ad2.add (k * 8)).off + 4, none⟩ = some (.slice Ab2 d2.b.length cb2) ∧ W.cell? ⟨(ad2.add (k * 8)).block, (ad2.add (k * 8)).off + 5, none⟩ = some (.int .i64 d2.n) ∧ W.cell? ⟨(ad2.add (k * 8)).block, (ad2.add (k * 8)).off + 6, none⟩ = some (.int .i64 d2.keep) ∧ W.cell? ⟨(ad2.add (k * 8)).block, (ad2.add (k * 8)).off + 7, none⟩ = some (.int .i64 d2.tear)) (fun _ => True) 99 40 (by kernel_rfl) (by kernel_rfl) ?_
          refine wpF_take0 (i := 0) (v := ?v1) rfl (by kernel_rfl) (by kernel_rfl) (by kernel_rfl) (fun _ _ _ h => h) (by kernel_rfl) (Or.inl ⟨by rfl, ?hy1⟩) H0.out (fun _ => trivial) ?rest1
          case hy1 => (intro W hSW; (try dsimp only at hSW); go_simp; (try with_reducible rfl))
          (try simp only [Act.put, List.setIfInBounds_toArray, List.set_cons_zero, List.set_cons_succ])
          refine wpF_take0 (i := 1) (v := ?v2) rfl (by kernel_rfl) (by kernel_rfl) (by kernel_rfl) (fun _ _ _ h => h) (by kernel_rfl) (Or.inl ⟨by rfl, ?hy2⟩) H0.out (fun _ => trivial) ?rest2
          case hy2 => (intro W hSW; (try dsimp only at hSW); go_simp; (try with_reducible rfl))
          (try simp only [Act.put, List.setIfInBounds_toArray, List.set_cons_zero, List.set_cons_succ])
          refine wpF_take0 (i := 2) (v := ?v3) rfl (by kernel_rfl) (by kernel_rfl) (by kernel_rfl) (fun _ _ _ h => h) (by kernel_rfl) (Or.inl ⟨by rfl, ?hy3⟩) H0.out (fun _ => trivial) ?rest3
          case hy3 => (intro W hSW; (try dsimp only at hSW); go_simp; (try with_reducible rfl))
          (try simp only [Act.put, List.setIfInBounds_toArray, List.set_cons_zero, List.set_cons_succ])
          refine wpF_take0 (i := 3) (v := ?v4) rfl (by kernel_rfl) (by kernel_rfl) (by kernel_rfl) (fun _ _ _ h => h) (by kernel_rfl) (Or.inl ⟨by rfl, ?hy4⟩) H0.out (fun _ => trivial) ?rest4
          case hy4 => (intro W hSW; (try dsimp only at hSW); go_simp; (try with_reducible rfl))
          (try simp only [Act.put, List.setIfInBounds_toArray, List.set_cons_zero, List.set_cons_succ])
          refine wpF_take0 (i := 4) (v := ?v5) rfl (by kernel_rfl) (by kernel_rfl) (by kernel_rfl) (fun _ _ _ h => h) (by kernel_rfl) (Or.inl ⟨by rfl, ?hy5⟩) H0.out (fun _ => trivial) ?rest5
          case hy5 => (intro W hSW; (try dsimp only at hSW); go_simp; (try with_reducible rfl))
          (try simp only [Act.put, List.setIfInBounds_toArray, List.set_cons_zero, List.set_cons_succ])
          refine wpF_take0 (i := 5) (v := ?v6) rfl (by kernel_rfl) (by kernel_rfl) (by kernel_rfl) (fun _ _ _ h => h) (by kernel_rfl) (Or.inl ⟨by rfl, ?hy6⟩) H0.out (fun _ => trivial) ?rest6
          case hy6 => (intro W hSW; (try dsimp only at hSW); go_simp; (try with_reducible rfl))
          (try simp only [Act.put, List.setIfInBounds_toArray, List.set_cons_zero, List.set_cons_succ])
          refine wpF_take0 (i := 6) (v := ?v7) rfl (by kernel_rfl) (by kernel_rfl) (by kernel_rfl) (fun _ _ _ h => h) (by kernel_rfl) (Or.inl ⟨by rfl, ?hy7⟩) H0.out (fun _ => trivial) ?rest7
          case hy7 => (intro W hSW; (try dsimp only at hSW); go_simp; (try with_reducible rfl))
          (try simp only [Act.put, List.setIfInBounds_toArray, List.set_cons_zero, List.set_cons_succ])
          refine wpF_take0 (i := 7) (v := ?v8) rfl (by kernel_rfl) (by kernel_rfl) (by kernel_rfl) (fun _ _ _ h => h) (by kernel_rfl) (Or.inl ⟨by rfl, ?hy8⟩) H0.out (fun _ => trivial) ?rest8
          case hy8 => (intro W hSW; (try dsimp only at hSW); go_simp; (try with_reducible rfl))
          (try simp only [Act.put, List.setIfInBounds_toArray, List.set_cons_zero, List.set_cons_succ])
          refine wpF_take0 (i := 8) (v := ?v9) rfl (by kernel_rfl) (by kernel_rfl) (by kernel_rfl) (fun _ _ _ h => h) (by kernel_rfl) (Or.inl ⟨by rfl, ?hy9⟩) H0.out (fun _ => trivial) ?rest9
          case hy9 => (intro W hSW; (try dsimp only at hSW); go_simp; (try with_reducible rfl))
          (try simp only [Act.put, List.setIfInBounds_toArray, List.set_cons_zero, List.set_cons_succ])
          refine wpF_take0 (i := 9) (v := ?v10) rfl (by kernel_rfl) (by kernel_rfl) (by kernel_rfl) (fun _ _ _ h => h) (by kernel_rfl) (Or.inl ⟨by rfl, ?hy10⟩) H0.out (fun _ => trivial) ?rest10
          case hy10 => (intro W hSW; (try dsimp only at hSW); go_simp; (try with_reducible rfl))
          (try simp only [Act.put, List.setIfInBounds_toArray, List.set_cons_zero, List.set_cons_succ])
          refine wpF_take0 (i := 11) (v := ?v11) rfl (by kernel_rfl) (by kernel_rfl) (by kernel_rfl) (fun _ _ _ h => h) (by kernel_rfl) (Or.inl ⟨by rfl, ?hy11⟩) H0.out (fun _ => trivial) ?rest11
          case hy11 => (intro W hSW; (try dsimp only at hSW); go_simp; (try with_reducible rfl))
          (try simp only [Act.put, List.setIfInBounds_toArray, List.set_cons_zero, List.set_cons_succ])
          refine wpF_take0 (i := 12) (v := ?v12) rfl (by kernel_rfl) (by kernel_rfl) (by kernel_rfl) (fun _ _ _ h => h) (by kernel_rfl) (Or.inl ⟨by rfl, ?hy12⟩) H0.out (fun _ => trivial) ?rest12
          case hy12 => (intro W hSW; (try dsimp only at hSW); go_simp; (try with_reducible rfl))
          (try simp only [Act.put, List.setIfInBounds_toArray, List.set_cons_zero, List.set_cons_succ])
          refine wpF_take0 (i := 13) (v := ?v13) rfl (by kernel_rfl) (by kernel_rfl) (by kernel_rfl) (fun _ _ _ h => h) (by kernel_rfl) (Or.inl ⟨by rfl, ?hy13⟩) H0.out (fun _ => trivial) ?rest13
          case hy13 => (intro W hSW; (try dsimp only at hSW); go_simp; (try with_reducible rfl))
          (try simp only [Act.put, List.setIfInBounds_toArray, List.set_cons_zero, List.set_cons_succ])
          refine wpF_take0 (i := 14) (v := ?v14) rfl (by kernel_rfl) (by kernel_rfl) (by kernel_rfl) (fun _ _ _ h => h) (by kernel_rfl) (Or.inl ⟨by rfl, ?hy14⟩) H0.out (fun _ => trivial) ?rest14
          case hy14 => (intro W hSW; (try dsimp only at hSW); go_simp; (try with_reducible rfl))
          (try simp only [Act.put, List.setIfInBounds_toArray, List.set_cons_zero, List.set_cons_succ])
          refine wpF_take0 (i := 15) (v := ?v15) rfl (by kernel_rfl) (by kernel_rfl) (by kernel_rfl) (fun _ _ _ h => h) (by kernel_rfl) (Or.inl ⟨by rfl, ?hy15⟩) H0.out (fun _ => trivial) ?rest15
          case hy15 => (intro W hSW; (try dsimp only at hSW); go_simp; (try with_reducible rfl))
          (try simp only [Act.put, List.setIfInBounds_toArray, List.set_cons_zero, List.set_cons_succ])
          refine wpF_step (i := 10) (by kernel_rfl) rfl (fun K hK => ?_)
          go_simp
          refine (HDr.out.op (i := 1) rfl (fun M D hX => does_calls _ q M D _ sc d1 _ hX HI1.out (HB1.out.ext HDr.out.ext) HLC.out)).mono ?_
          rw [HE1.out]
          rintro e wa ⟨rfl, HDa⟩
          change Hid (DkS_ w wa [(p, sd), (q, sn1), (pe, sc), (pf, sd)]) at HDa
          have Ha := Lib.hid (HS0.out _ HDa.out.ext)
          (try go_wp2_with fail)
          refine hK.out _ _ Ha.out (fun _ => trivial) ?_
          clear hK K
          (try simp only [Act.put, List.setIfInBounds_toArray, List.set_cons_zero, List.set_cons_succ])
          refine wpF_step (i := 16) (by kernel_rfl) rfl (fun K hK => ?_)
          go_simp
          refine (HDa.out.op (i := 2) rfl (fun M D hX => does_calls _ pe M D _ sc d1 _ hX HI1.out (HB1.out.ext HDa.out.ext) HLC.out)).mono ?_
          rw [HE1.out]
          rintro e wb ⟨rfl, HDb⟩
          change Hid (DkS_ w wb [(p, sd), (q, sn1), (pe, sn1), (pf, sd)]) at HDb
          have Hb := Lib.hid (HS0.out _ HDb.out.ext)
          (try go_wp2_with fail)
          refine hK.out _ _ Hb.out (fun _ => trivial) ?_
          clear hK K
          (try simp only [Act.put, List.setIfInBounds_toArray, List.set_cons_zero, List.set_cons_succ])
          refine wpF_take0 (i := 17) (v := ?v16) rfl (by kernel_rfl) (by kernel_rfl) (by kernel_rfl) (fun _ _ _ h => h) (by kernel_rfl) (Or.inl ⟨by rfl, ?hy16⟩) Hb.out (fun _ => trivial) ?rest16
          case hy16 => (intro W hSW; (try dsimp only at hSW); go_simp; (try with_reducible rfl))
          (try simp only [Act.put, List.setIfInBounds_toArray, List.set_cons_zero, List.set_cons_succ])
          refine wpF_take0 (i := 18) (v := ?v17) rfl (by kernel_rfl) (by kernel_rfl) (by kernel_rfl) (fun _ _ _ h => h) (by kernel_rfl) (Or.inl ⟨by rfl, ?hy17⟩) Hb.out (fun _ => trivial) ?rest17
          case hy17 => (intro W hSW; (try dsimp only at hSW); go_simp; (try with_reducible rfl))
          (try simp only [Act.put, List.setIfInBounds_toArray, List.set_cons_zero, List.set_cons_succ])
          refine wpF_take0 (i := 19) (v := ?v18) rfl (by kernel_rfl) (by kernel_rfl) (by kernel_rfl) (fun _ _ _ h => h) (by kernel_rfl) (Or.inl ⟨by rfl, ?hy18⟩) Hb.out (fun _ => trivial) ?rest18
          case hy18 => (intro W hSW; (try dsimp only at hSW); go_simp; (try with_reducible rfl))
          (try simp only [Act.put, List.setIfInBounds_toArray, List.set_cons_zero, List.set_cons_succ])
          refine wpF_take0 (i := 20) (v := ?v19) rfl (by kernel_rfl) (by kernel_rfl) (by kernel_rfl) (fun _ _ _ h => h) (by kernel_rfl) (Or.inl ⟨by rfl, ?hy19⟩) Hb.out (fun _ => trivial) ?rest19
          case hy19 => (intro W hSW; (try dsimp only at hSW); go_simp; (try with_reducible rfl))
          (try simp only [Act.put, List.setIfInBounds_toArray, List.set_cons_zero, List.set_cons_succ])
          refine wpF_take0 (i := 21) (v := ?v20) rfl (by kernel_rfl) (by kernel_rfl) (by kernel_rfl) (fun _ _ _ h => h) (by kernel_rfl) (Or.inl ⟨by rfl, ?hy20⟩) Hb.out (fun _ => trivial) ?rest20
          case hy20 => (intro W hSW; (try dsimp only at hSW); go_simp; (try with_reducible rfl))
          (try simp only [Act.put, List.setIfInBounds_toArray, List.set_cons_zero, List.set_cons_succ])
          refine wpF_take0 (i := 22) (v := ?v21) rfl (by kernel_rfl) (by kernel_rfl) (by kernel_rfl) (fun _ _ _ h => h) (by kernel_rfl) (Or.inl ⟨by rfl, ?hy21⟩) Hb.out (fun _ => trivial) ?rest21
          case hy21 => (intro W hSW; (try dsimp only at hSW); go_simp; (try with_reducible rfl))
          (try simp only [Act.put, List.setIfInBounds_toArray, List.set_cons_zero, List.set_cons_succ])
          refine wpF_take0 (i := 23) (v := ?v22) rfl (by kernel_rfl) (by kernel_rfl) (by kernel_rfl) (fun _ _ _ h => h) (by kernel_rfl) (Or.inl ⟨by rfl, ?hy22⟩) Hb.out (fun _ => trivial) ?rest22
          case hy22 => (intro W hSW; (try dsimp only at hSW); go_simp; (try with_reducible rfl))
          (try simp only [Act.put, List.setIfInBounds_toArray, List.set_cons_zero, List.set_cons_succ])
          refine wpF_take0 (i := 24) (v := ?v23) rfl (by kernel_rfl) (by kernel_rfl) (by kernel_rfl) (fun _ _ _ h => h) (by kernel_rfl) (Or.inl ⟨by rfl, ?hy23⟩) Hb.out (fun _ => trivial) ?rest23
          case hy23 => (intro W hSW; (try dsimp only at hSW); go_simp; (try with_reducible rfl))
          (try simp only [Act.put, List.setIfInBounds_toArray, List.set_cons_zero, List.set_cons_succ])
          refine wpF_take0 (i := 25) (v := ?v24) rfl (by kernel_rfl) (by kernel_rfl) (by kernel_rfl) (fun _ _ _ h => h) (by kernel_rfl) (Or.inl ⟨by rfl, ?hy24⟩) Hb.out (fun _ => trivial) ?rest24
          case hy24 => (intro W hSW; (try dsimp only at hSW); go_simp; (try with_reducible rfl))
          (try simp only [Act.put, List.setIfInBounds_toArray, List.set_cons_zero, List.set_cons_succ])
          refine wpF_take0 (i := 26) (v := ?v25) rfl (by kernel_rfl) (by kernel_rfl) (by kernel_rfl) (fun _ _ _ h => h) (by kernel_rfl) (Or.inl ⟨by rfl, ?hy25⟩) Hb.out (fun _ => trivial) ?rest25
          case hy25 => (intro W hSW; (try dsimp only at hSW); go_simp; (try with_reducible rfl))
          (try simp only [Act.put, List.setIfInBounds_toArray, List.set_cons_zero, List.set_cons_succ])
          refine wpF_take0 (i := 27) (v := ?v26) rfl (by kernel_rfl) (by kernel_rfl) (by kernel_rfl) (fun _ _ _ h => h) (by kernel_rfl) (Or.inl ⟨by rfl, ?hy26⟩) Hb.out (fun _ => trivial) ?rest26
          case hy26 => (intro W hSW; (try dsimp only at hSW); go_simp; (try with_reducible rfl))
          (try simp only [Act.put, List.setIfInBounds_toArray, List.set_cons_zero, List.set_cons_succ])
          refine wpF_take0 (i := 28) (v := ?v27) rfl (by kernel_rfl) (by kernel_rfl) (by kernel_rfl) (fun _ _ _ h => h) (by kernel_rfl) (Or.inl ⟨by rfl, ?hy27⟩) Hb.out (fun _ => trivial) ?rest27
          case hy27 => (intro W hSW; (try dsimp only at hSW); go_simp; (try with_reducible rfl))
          (try simp only [Act.put, List.setIfInBounds_toArray, List.set_cons_zero, List.set_cons_succ])
          refine wpF_take0 (i := 29) (v := ?v28) rfl (by kernel_rfl) (by kernel_rfl) (by kernel_rfl) (fun _ _ _ h => h) (by kernel_rfl) (Or.inl ⟨by rfl, ?hy28⟩) Hb.out (fun _ => trivial) ?rest28
          case hy28 => (intro W hSW; (try dsimp only at hSW); go_simp; (try with_reducible rfl))
          (try simp only [Act.put, List.setIfInBounds_toArray, List.set_cons_zero, List.set_cons_succ])
          refine wpF_take0 (i := 31) (v := ?v29) rfl (by kernel_rfl) (by kernel_rfl) (by kernel_rfl) (fun _ _ _ h => h) (by kernel_rfl) (Or.inl ⟨by rfl, ?hy29⟩) Hb.out (fun _ => trivial) ?rest29
          case hy29 => (intro W hSW; (try dsimp only at hSW); go_simp; (try with_reducible rfl))
          (try simp only [Act.put, List.setIfInBounds_toArray, List.set_cons_zero, List.set_cons_succ])
          refine wpF_take0 (i := 32) (v := ?v30) rfl (by kernel_rfl) (by kernel_rfl) (by kernel_rfl) (fun _ _ _ h => h) (by kernel_rfl) (Or.inl ⟨by rfl, ?hy30⟩) Hb.out (fun _ => trivial) ?rest30
          case hy30 => (intro W hSW; (try dsimp only at hSW); go_simp; (try with_reducible rfl))
          (try simp only [Act.put, List.setIfInBounds_toArray, List.set_cons_zero, List.set_cons_succ])
          refine wpF_take0 (i := 33) (v := ?v31) rfl (by kernel_rfl) (by kernel_rfl) (by kernel_rfl) (fun _ _ _ h => h) (by kernel_rfl) (Or.inl ⟨by rfl, ?hy31⟩) Hb.out (fun _ => trivial) ?rest31
          case hy31 => (intro W hSW; (try dsimp only at hSW); go_simp; (try with_reducible rfl))
          (try simp only [Act.put, List.setIfInBounds_toArray, List.set_cons_zero, List.set_cons_succ])
          refine wpF_take0 (i := 34) (v := ?v32) rfl (by kernel_rfl) (by kernel_rfl) (by kernel_rfl) (fun _ _ _ h => h) (by kernel_rfl) (Or.inl ⟨by rfl, ?hy32⟩) Hb.out (fun _ => trivial) ?rest32
          case hy32 => (intro W hSW; (try dsimp only at hSW); go_simp; (try with_reducible rfl))
          (try simp only [Act.put, List.setIfInBounds_toArray, List.set_cons_zero, List.set_cons_succ])
          refine wpF_take0 (i := 35) (v := ?v33) rfl (by kernel_rfl) (by kernel_rfl) (by kernel_rfl) (fun _ _ _ h => h) (by kernel_rfl) (Or.inl ⟨by rfl, ?hy33⟩) Hb.out (fun _ => trivial) ?rest33
          case hy33 => (intro W hSW; (try dsimp only at hSW); go_simp; (try with_reducible rfl))
          (try simp only [Act.put, List.setIfInBounds_toArray, List.set_cons_zero, List.set_cons_succ])
          refine wpF_step (i := 30) (by kernel_rfl) rfl (fun K hK => ?_)
          go_simp
          refine (HDb.out.op (i := 0) rfl (fun M D hX => does_calls _ p M D _ sd d2 _ hX HI2.out (HB2.out.ext HDb.out.ext) HLD.out)).mono ?_
          rw [HE2.out]
          rintro e wc ⟨rfl, HDc⟩
          change Hid (DkS_ w wc [(p, sn2), (q, sn1), (pe, sn1), (pf, sd)]) at HDc
          have Hc := Lib.hid (HS0.out _ HDc.out.ext)
          (try go_wp2_with fail)
          refine hK.out _ _ Hc.out (fun _ => trivial) ?_
          clear hK K
          (try simp only [Act.put, List.setIfInBounds_toArray, List.set_cons_zero, List.set_cons_succ])
          refine wpF_step (i := 36) (by kernel_rfl) rfl (fun K hK => ?_)
          go_simp
          refine (HDc.out.op (i := 3) rfl (fun M D hX => does_calls _ pf M D _ sd d2 _ hX HI2.out (HB2.out.ext HDc.out.ext) HLD.out)).mono ?_
          rw [HE2.out]
          rintro e wd ⟨rfl, HDd⟩
          change Hid (DkS_ w wd [(p, sn2), (q, sn1), (pe, sn1), (pf, sn2)]) at HDd
          have Hd := Lib.hid (HS0.out _ HDd.out.ext)
          (try go_wp2_with fail)
          refine hK.out _ _ Hd.out (fun _ => trivial) ?_
          clear hK K
          (try simp only [Act.put, List.setIfInBounds_toArray, List.set_cons_zero, List.set_cons_succ])
          refine wpF_take0 (i := 37) (v := ?v34) rfl (by kernel_rfl) (by kernel_rfl) (by kernel_rfl) (fun _ _ _ h => h) (by kernel_rfl) (Or.inl ⟨by rfl, ?hy34⟩) Hd.out (fun _ => trivial) ?rest34
          case hy34 => (intro W hSW; (try dsimp only at hSW); go_simp; (try with_reducible rfl))
          (try simp only [Act.put, List.setIfInBounds_toArray, List.set_cons_zero, List.set_cons_succ])
          refine wpF_take0 (i := 38) (v := ?v35) rfl (by kernel_rfl) (by kernel_rfl) (by kernel_rfl) (fun _ _ _ h => h) (by kernel_rfl) (Or.inl ⟨by rfl, ?hy35⟩) Hd.out (fun _ => trivial) ?rest35
          case hy35 => (intro W hSW; (try dsimp only at hSW); go_simp; (try with_reducible rfl))
          (try simp only [Act.put, List.setIfInBounds_toArray, List.set_cons_zero, List.set_cons_succ])
          refine wpF_take0 (i := 39) (v := ?v36) rfl (by kernel_rfl) (by kernel_rfl) (by kernel_rfl) (fun _ _ _ h => h) (by kernel_rfl) (Or.inl ⟨by rfl, ?hy36⟩) Hd.out (fun _ => trivial) ?rest36
          case hy36 => (intro W hSW; (try dsimp only at hSW); go_simp; (try with_reducible rfl))
          (try simp only [Act.put, List.setIfInBounds_toArray, List.set_cons_zero, List.set_cons_succ])
          refine wpF_done (by kernel_rfl) ?_ _
          refine NoPanic.normal ?_
          go_wp2_with fail
          go_roundw
          case rel => exact ⟨k + 1, sn1, sn2, by omega, by go_num, HDd, Lib.hid ⟨HLN1.out, HLN2.out⟩⟩
          case measure => simp [intOf]; omega

        · have hd1 : decide ((k : Int) < (one.length : Int)) = true := decide_eq_true (by omega)
          have hd2 : decide ((k : Int) < (two.length : Int)) = false := decide_eq_false (by omega)
          have hki : (k : Int) < (one.length : Int) := by omega
          have hk0 : (0 : Int) ≤ (k : Int) := by omega
          have HS0 := Lib.hid (show ∀ W : World, Ext w W → (fun W => W.cell? (ad1.add (k * 8)) = some (.int .i64 d1.op) ∧ W.cell? ⟨(ad1.add (k * 8)).block, (ad1.add (k * 8)).off + 1, none⟩ = some (.string ⟨d1.name.toArray⟩) ∧ W.cell? ⟨(ad1.add (k * 8)).block, (ad1.add (k * 8)).off + 2, none⟩ = some (.string ⟨d1.to.toArray⟩) ∧ W.cell? ⟨(ad1.add (k * 8)).block, (ad1.add (k * 8)).off + 3, none⟩ = some (.int .i64 d1.at_) ∧ W.cell? ⟨(ad1.add (k * 8)).block, (ad1.add (k * 8)).off + 4, none⟩ = some (.slice Ab1 d1.b.length cb1) ∧ W.cell? ⟨(ad1.add (k * 8)).block, (ad1.add (k * 8)).off + 5, none⟩ = some (.int .i64 d1.n) ∧ W.cell? ⟨(ad1.add (k * 8)).block, (ad1.add (k * 8)).off + 6, none⟩ = some (.int .i64 d1.keep) ∧ W.cell? ⟨(ad1.add (k * 8)).block, (ad1.add (k * 8)).off + 7, none⟩ = some (.int .i64 d1.tear)) W from fun W he => HF1.out W he)
          have H0 := Lib.hid (HS0.out _ HDr.out.ext)
          go_upto_region 12 with fail
          refine wpF_region (fun W => W.cell? (ad1.add (k * 8)) = some (.int .i64 d1.op) ∧ W.cell? ⟨(ad1.add (k * 8)).block, (ad1.add (k * 8)).off + 1, none⟩ = some (.string ⟨d1.name.toArray⟩) ∧ W.cell? ⟨(ad1.add (k * 8)).block, (ad1.add (k * 8)).off + 2, none⟩ = some (.string ⟨d1.to.toArray⟩) ∧ W.cell? ⟨(ad1.add (k * 8)).block, (ad1.add (k * 8)).off + 3, none⟩ = some (.int .i64 d1.at_) ∧ W.cell? ⟨(ad1.add (k * 8)).block, (ad1.add (k * 8)).off + 4, none⟩ = some (.slice Ab1 d1.b.length cb1) ∧ W.cell? ⟨(ad1.add (k * 8)).block, (ad1.add (k * 8)).off + 5, none⟩ = some (.int .i64 d1.n) ∧ W.cell? ⟨(ad1.add (k * 8)).block, (ad1.add (k * 8)).off + 6, none⟩ = some (.int .i64 d1.keep) ∧ W.cell? ⟨(ad1.add (k * 8)).block, (ad1.add (k * 8)).off + 7, none⟩ = some (.int .i64 d1.tear)) (fun _ => True) 99 40 (by kernel_rfl) (by kernel_rfl) ?_
          refine wpF_take0 (i := 0) (v := ?v37) rfl (by kernel_rfl) (by kernel_rfl) (by kernel_rfl) (fun _ _ _ h => h) (by kernel_rfl) (Or.inl ⟨by rfl, ?hy37⟩) H0.out (fun _ => trivial) ?rest37
          case hy37 => (intro W hSW; (try dsimp only at hSW); go_simp; (try with_reducible rfl))
          (try simp only [Act.put, List.setIfInBounds_toArray, List.set_cons_zero, List.set_cons_succ])
          refine wpF_take0 (i := 1) (v := ?v38) rfl (by kernel_rfl) (by kernel_rfl) (by kernel_rfl) (fun _ _ _ h => h) (by kernel_rfl) (Or.inl ⟨by rfl, ?hy38⟩) H0.out (fun _ => trivial) ?rest38
          case hy38 => (intro W hSW; (try dsimp only at hSW); go_simp; (try with_reducible rfl))
          (try simp only [Act.put, List.setIfInBounds_toArray, List.set_cons_zero, List.set_cons_succ])
          refine wpF_take0 (i := 2) (v := ?v39) rfl (by kernel_rfl) (by kernel_rfl) (by kernel_rfl) (fun _ _ _ h => h) (by kernel_rfl) (Or.inl ⟨by rfl, ?hy39⟩) H0.out (fun _ => trivial) ?rest39
          case hy39 => (intro W hSW; (try dsimp only at hSW); go_simp; (try with_reducible rfl))
          (try simp only [Act.put, List.setIfInBounds_toArray, List.set_cons_zero, List.set_cons_succ])
          refine wpF_take0 (i := 3) (v := ?v40) rfl (by kernel_rfl) (by kernel_rfl) (by kernel_rfl) (fun _ _ _ h => h) (by kernel_rfl) (Or.inl ⟨by rfl, ?hy40⟩) H0.out (fun _ => trivial) ?rest40
          case hy40 => (intro W hSW; (try dsimp only at hSW); go_simp; (try with_reducible rfl))
          (try simp only [Act.put, List.setIfInBounds_toArray, List.set_cons_zero, List.set_cons_succ])
          refine wpF_take0 (i := 4) (v := ?v41) rfl (by kernel_rfl) (by kernel_rfl) (by kernel_rfl) (fun _ _ _ h => h) (by kernel_rfl) (Or.inl ⟨by rfl, ?hy41⟩) H0.out (fun _ => trivial) ?rest41
          case hy41 => (intro W hSW; (try dsimp only at hSW); go_simp; (try with_reducible rfl))
          (try simp only [Act.put, List.setIfInBounds_toArray, List.set_cons_zero, List.set_cons_succ])
          refine wpF_take0 (i := 5) (v := ?v42) rfl (by kernel_rfl) (by kernel_rfl) (by kernel_rfl) (fun _ _ _ h => h) (by kernel_rfl) (Or.inl ⟨by rfl, ?hy42⟩) H0.out (fun _ => trivial) ?rest42
          case hy42 => (intro W hSW; (try dsimp only at hSW); go_simp; (try with_reducible rfl))
          (try simp only [Act.put, List.setIfInBounds_toArray, List.set_cons_zero, List.set_cons_succ])
          refine wpF_take0 (i := 6) (v := ?v43) rfl (by kernel_rfl) (by kernel_rfl) (by kernel_rfl) (fun _ _ _ h => h) (by kernel_rfl) (Or.inl ⟨by rfl, ?hy43⟩) H0.out (fun _ => trivial) ?rest43
          case hy43 => (intro W hSW; (try dsimp only at hSW); go_simp; (try with_reducible rfl))
          (try simp only [Act.put, List.setIfInBounds_toArray, List.set_cons_zero, List.set_cons_succ])
          refine wpF_take0 (i := 7) (v := ?v44) rfl (by kernel_rfl) (by kernel_rfl) (by kernel_rfl) (fun _ _ _ h => h) (by kernel_rfl) (Or.inl ⟨by rfl, ?hy44⟩) H0.out (fun _ => trivial) ?rest44
          case hy44 => (intro W hSW; (try dsimp only at hSW); go_simp; (try with_reducible rfl))
          (try simp only [Act.put, List.setIfInBounds_toArray, List.set_cons_zero, List.set_cons_succ])
          refine wpF_take0 (i := 8) (v := ?v45) rfl (by kernel_rfl) (by kernel_rfl) (by kernel_rfl) (fun _ _ _ h => h) (by kernel_rfl) (Or.inl ⟨by rfl, ?hy45⟩) H0.out (fun _ => trivial) ?rest45
          case hy45 => (intro W hSW; (try dsimp only at hSW); go_simp; (try with_reducible rfl))
          (try simp only [Act.put, List.setIfInBounds_toArray, List.set_cons_zero, List.set_cons_succ])
          refine wpF_take0 (i := 9) (v := ?v46) rfl (by kernel_rfl) (by kernel_rfl) (by kernel_rfl) (fun _ _ _ h => h) (by kernel_rfl) (Or.inl ⟨by rfl, ?hy46⟩) H0.out (fun _ => trivial) ?rest46
          case hy46 => (intro W hSW; (try dsimp only at hSW); go_simp; (try with_reducible rfl))
          (try simp only [Act.put, List.setIfInBounds_toArray, List.set_cons_zero, List.set_cons_succ])
          refine wpF_take0 (i := 11) (v := ?v47) rfl (by kernel_rfl) (by kernel_rfl) (by kernel_rfl) (fun _ _ _ h => h) (by kernel_rfl) (Or.inl ⟨by rfl, ?hy47⟩) H0.out (fun _ => trivial) ?rest47
          case hy47 => (intro W hSW; (try dsimp only at hSW); go_simp; (try with_reducible rfl))
          (try simp only [Act.put, List.setIfInBounds_toArray, List.set_cons_zero, List.set_cons_succ])
          refine wpF_take0 (i := 12) (v := ?v48) rfl (by kernel_rfl) (by kernel_rfl) (by kernel_rfl) (fun _ _ _ h => h) (by kernel_rfl) (Or.inl ⟨by rfl, ?hy48⟩) H0.out (fun _ => trivial) ?rest48
          case hy48 => (intro W hSW; (try dsimp only at hSW); go_simp; (try with_reducible rfl))
          (try simp only [Act.put, List.setIfInBounds_toArray, List.set_cons_zero, List.set_cons_succ])
          refine wpF_take0 (i := 13) (v := ?v49) rfl (by kernel_rfl) (by kernel_rfl) (by kernel_rfl) (fun _ _ _ h => h) (by kernel_rfl) (Or.inl ⟨by rfl, ?hy49⟩) H0.out (fun _ => trivial) ?rest49
          case hy49 => (intro W hSW; (try dsimp only at hSW); go_simp; (try with_reducible rfl))
          (try simp only [Act.put, List.setIfInBounds_toArray, List.set_cons_zero, List.set_cons_succ])
          refine wpF_take0 (i := 14) (v := ?v50) rfl (by kernel_rfl) (by kernel_rfl) (by kernel_rfl) (fun _ _ _ h => h) (by kernel_rfl) (Or.inl ⟨by rfl, ?hy50⟩) H0.out (fun _ => trivial) ?rest50
          case hy50 => (intro W hSW; (try dsimp only at hSW); go_simp; (try with_reducible rfl))
          (try simp only [Act.put, List.setIfInBounds_toArray, List.set_cons_zero, List.set_cons_succ])
          refine wpF_take0 (i := 15) (v := ?v51) rfl (by kernel_rfl) (by kernel_rfl) (by kernel_rfl) (fun _ _ _ h => h) (by kernel_rfl) (Or.inl ⟨by rfl, ?hy51⟩) H0.out (fun _ => trivial) ?rest51
          case hy51 => (intro W hSW; (try dsimp only at hSW); go_simp; (try with_reducible rfl))
          (try simp only [Act.put, List.setIfInBounds_toArray, List.set_cons_zero, List.set_cons_succ])
          refine wpF_step (i := 10) (by kernel_rfl) rfl (fun K hK => ?_)
          go_simp
          refine (HDr.out.op (i := 1) rfl (fun M D hX => does_calls _ q M D _ sc d1 _ hX HI1.out (HB1.out.ext HDr.out.ext) HLC.out)).mono ?_
          rw [HE1.out]
          rintro e wa ⟨rfl, HDa⟩
          change Hid (DkS_ w wa [(p, sd), (q, sn1), (pe, sc), (pf, sd)]) at HDa
          have Ha := Lib.hid (HS0.out _ HDa.out.ext)
          (try go_wp2_with fail)
          refine hK.out _ _ Ha.out (fun _ => trivial) ?_
          clear hK K
          (try simp only [Act.put, List.setIfInBounds_toArray, List.set_cons_zero, List.set_cons_succ])
          refine wpF_step (i := 16) (by kernel_rfl) rfl (fun K hK => ?_)
          go_simp
          refine (HDa.out.op (i := 2) rfl (fun M D hX => does_calls _ pe M D _ sc d1 _ hX HI1.out (HB1.out.ext HDa.out.ext) HLC.out)).mono ?_
          rw [HE1.out]
          rintro e wb ⟨rfl, HDb⟩
          change Hid (DkS_ w wb [(p, sd), (q, sn1), (pe, sn1), (pf, sd)]) at HDb
          have Hb := Lib.hid (HS0.out _ HDb.out.ext)
          (try go_wp2_with fail)
          refine hK.out _ _ Hb.out (fun _ => trivial) ?_
          clear hK K
          (try simp only [Act.put, List.setIfInBounds_toArray, List.set_cons_zero, List.set_cons_succ])
          refine wpF_take0 (i := 17) (v := ?v52) rfl (by kernel_rfl) (by kernel_rfl) (by kernel_rfl) (fun _ _ _ h => h) (by kernel_rfl) (Or.inl ⟨by rfl, ?hy52⟩) Hb.out (fun _ => trivial) ?rest52
          case hy52 => (intro W hSW; (try dsimp only at hSW); go_simp; (try with_reducible rfl))
          (try simp only [Act.put, List.setIfInBounds_toArray, List.set_cons_zero, List.set_cons_succ])
          refine wpF_take0 (i := 18) (v := ?v53) rfl (by kernel_rfl) (by kernel_rfl) (by kernel_rfl) (fun _ _ _ h => h) (by kernel_rfl) (Or.inl ⟨by rfl, ?hy53⟩) Hb.out (fun _ => trivial) ?rest53
          case hy53 => (intro W hSW; (try dsimp only at hSW); go_simp; (try with_reducible rfl))
          (try simp only [Act.put, List.setIfInBounds_toArray, List.set_cons_zero, List.set_cons_succ])
          refine wpF_take0 (i := 19) (v := ?v54) rfl (by kernel_rfl) (by kernel_rfl) (by kernel_rfl) (fun _ _ _ h => h) (by kernel_rfl) (Or.inl ⟨by rfl, ?hy54⟩) Hb.out (fun _ => trivial) ?rest54
          case hy54 => (intro W hSW; (try dsimp only at hSW); go_simp; (try with_reducible rfl))
          (try simp only [Act.put, List.setIfInBounds_toArray, List.set_cons_zero, List.set_cons_succ])
          refine wpF_take0 (i := 20) (v := ?v55) rfl (by kernel_rfl) (by kernel_rfl) (by kernel_rfl) (fun _ _ _ h => h) (by kernel_rfl) (Or.inl ⟨by rfl, ?hy55⟩) Hb.out (fun _ => trivial) ?rest55
          case hy55 => (intro W hSW; (try dsimp only at hSW); go_simp; (try with_reducible rfl))
          (try simp only [Act.put, List.setIfInBounds_toArray, List.set_cons_zero, List.set_cons_succ])
          refine wpF_take0 (i := 21) (v := ?v56) rfl (by kernel_rfl) (by kernel_rfl) (by kernel_rfl) (fun _ _ _ h => h) (by kernel_rfl) (Or.inl ⟨by rfl, ?hy56⟩) Hb.out (fun _ => trivial) ?rest56
          case hy56 => (intro W hSW; (try dsimp only at hSW); go_simp; (try with_reducible rfl))
          (try simp only [Act.put, List.setIfInBounds_toArray, List.set_cons_zero, List.set_cons_succ])
          refine wpF_take0 (i := 22) (v := ?v57) rfl (by kernel_rfl) (by kernel_rfl) (by kernel_rfl) (fun _ _ _ h => h) (by kernel_rfl) (Or.inl ⟨by rfl, ?hy57⟩) Hb.out (fun _ => trivial) ?rest57
          case hy57 => (intro W hSW; (try dsimp only at hSW); go_simp; (try with_reducible rfl))
          (try simp only [Act.put, List.setIfInBounds_toArray, List.set_cons_zero, List.set_cons_succ])
          refine wpF_take0 (i := 23) (v := ?v58) rfl (by kernel_rfl) (by kernel_rfl) (by kernel_rfl) (fun _ _ _ h => h) (by kernel_rfl) (Or.inl ⟨by rfl, ?hy58⟩) Hb.out (fun _ => trivial) ?rest58
          case hy58 => (intro W hSW; (try dsimp only at hSW); go_simp; (try with_reducible rfl))
          (try simp only [Act.put, List.setIfInBounds_toArray, List.set_cons_zero, List.set_cons_succ])
          refine wpF_take0 (i := 24) (v := ?v59) rfl (by kernel_rfl) (by kernel_rfl) (by kernel_rfl) (fun _ _ _ h => h) (by kernel_rfl) (Or.inl ⟨by rfl, ?hy59⟩) Hb.out (fun _ => trivial) ?rest59
          case hy59 => (intro W hSW; (try dsimp only at hSW); go_simp; (try with_reducible rfl))
          (try simp only [Act.put, List.setIfInBounds_toArray, List.set_cons_zero, List.set_cons_succ])
          refine wpF_take0 (i := 25) (v := undef) rfl (by kernel_rfl) (by kernel_rfl) (by kernel_rfl) (fun _ _ _ h => h) (by kernel_rfl) (Or.inr ⟨by rfl, rfl⟩) Hb.out (fun _ => trivial) ?rest60
          (try simp only [Act.put, List.setIfInBounds_toArray, List.set_cons_zero, List.set_cons_succ])
          refine wpF_take0 (i := 26) (v := undef) rfl (by kernel_rfl) (by kernel_rfl) (by kernel_rfl) (fun _ _ _ h => h) (by kernel_rfl) (Or.inr ⟨by rfl, rfl⟩) Hb.out (fun _ => trivial) ?rest61
          (try simp only [Act.put, List.setIfInBounds_toArray, List.set_cons_zero, List.set_cons_succ])
          refine wpF_take0 (i := 27) (v := undef) rfl (by kernel_rfl) (by kernel_rfl) (by kernel_rfl) (fun _ _ _ h => h) (by kernel_rfl) (Or.inr ⟨by rfl, rfl⟩) Hb.out (fun _ => trivial) ?rest62
          (try simp only [Act.put, List.setIfInBounds_toArray, List.set_cons_zero, List.set_cons_succ])
          refine wpF_take0 (i := 28) (v := undef) rfl (by kernel_rfl) (by kernel_rfl) (by kernel_rfl) (fun _ _ _ h => h) (by kernel_rfl) (Or.inr ⟨by rfl, rfl⟩) Hb.out (fun _ => trivial) ?rest63
          (try simp only [Act.put, List.setIfInBounds_toArray, List.set_cons_zero, List.set_cons_succ])
          refine wpF_take0 (i := 29) (v := undef) rfl (by kernel_rfl) (by kernel_rfl) (by kernel_rfl) (fun _ _ _ h => h) (by kernel_rfl) (Or.inr ⟨by rfl, rfl⟩) Hb.out (fun _ => trivial) ?rest64
          (try simp only [Act.put, List.setIfInBounds_toArray, List.set_cons_zero, List.set_cons_succ])
          refine wpF_take0 (i := 30) (v := undef) rfl (by kernel_rfl) (by kernel_rfl) (by kernel_rfl) (fun _ _ _ h => h) (by kernel_rfl) (Or.inr ⟨by rfl, rfl⟩) Hb.out (fun _ => trivial) ?rest65
          (try simp only [Act.put, List.setIfInBounds_toArray, List.set_cons_zero, List.set_cons_succ])
          refine wpF_take0 (i := 31) (v := undef) rfl (by kernel_rfl) (by kernel_rfl) (by kernel_rfl) (fun _ _ _ h => h) (by kernel_rfl) (Or.inr ⟨by rfl, rfl⟩) Hb.out (fun _ => trivial) ?rest66
          (try simp only [Act.put, List.setIfInBounds_toArray, List.set_cons_zero, List.set_cons_succ])
          refine wpF_take0 (i := 32) (v := undef) rfl (by kernel_rfl) (by kernel_rfl) (by kernel_rfl) (fun _ _ _ h => h) (by kernel_rfl) (Or.inr ⟨by rfl, rfl⟩) Hb.out (fun _ => trivial) ?rest67
          (try simp only [Act.put, List.setIfInBounds_toArray, List.set_cons_zero, List.set_cons_succ])
          refine wpF_take0 (i := 33) (v := undef) rfl (by kernel_rfl) (by kernel_rfl) (by kernel_rfl) (fun _ _ _ h => h) (by kernel_rfl) (Or.inr ⟨by rfl, rfl⟩) Hb.out (fun _ => trivial) ?rest68
          (try simp only [Act.put, List.setIfInBounds_toArray, List.set_cons_zero, List.set_cons_succ])
          refine wpF_take0 (i := 34) (v := undef) rfl (by kernel_rfl) (by kernel_rfl) (by kernel_rfl) (fun _ _ _ h => h) (by kernel_rfl) (Or.inr ⟨by rfl, rfl⟩) Hb.out (fun _ => trivial) ?rest69
          (try simp only [Act.put, List.setIfInBounds_toArray, List.set_cons_zero, List.set_cons_succ])
          refine wpF_take0 (i := 35) (v := undef) rfl (by kernel_rfl) (by kernel_rfl) (by kernel_rfl) (fun _ _ _ h => h) (by kernel_rfl) (Or.inr ⟨by rfl, rfl⟩) Hb.out (fun _ => trivial) ?rest70
          (try simp only [Act.put, List.setIfInBounds_toArray, List.set_cons_zero, List.set_cons_succ])
          refine wpF_take0 (i := 36) (v := undef) rfl (by kernel_rfl) (by kernel_rfl) (by kernel_rfl) (fun _ _ _ h => h) (by kernel_rfl) (Or.inr ⟨by rfl, rfl⟩) Hb.out (fun _ => trivial) ?rest71
          (try simp only [Act.put, List.setIfInBounds_toArray, List.set_cons_zero, List.set_cons_succ])
          refine wpF_take0 (i := 37) (v := undef) rfl (by kernel_rfl) (by kernel_rfl) (by kernel_rfl) (fun _ _ _ h => h) (by kernel_rfl) (Or.inr ⟨by rfl, rfl⟩) Hb.out (fun _ => trivial) ?rest72
          (try simp only [Act.put, List.setIfInBounds_toArray, List.set_cons_zero, List.set_cons_succ])
          refine wpF_take0 (i := 38) (v := ?v73) rfl (by kernel_rfl) (by kernel_rfl) (by kernel_rfl) (fun _ _ _ h => h) (by kernel_rfl) (Or.inl ⟨by rfl, ?hy73⟩) Hb.out (fun _ => trivial) ?rest73
          case hy73 => (intro W hSW; (try dsimp only at hSW); go_simp; (try with_reducible rfl))
          (try simp only [Act.put, List.setIfInBounds_toArray, List.set_cons_zero, List.set_cons_succ])
          refine wpF_take0 (i := 39) (v := ?v74) rfl (by kernel_rfl) (by kernel_rfl) (by kernel_rfl) (fun _ _ _ h => h) (by kernel_rfl) (Or.inl ⟨by rfl, ?hy74⟩) Hb.out (fun _ => trivial) ?rest74
          case hy74 => (intro W hSW; (try dsimp only at hSW); go_simp; (try with_reducible rfl))
          (try simp only [Act.put, List.setIfInBounds_toArray, List.set_cons_zero, List.set_cons_succ])
          refine wpF_done (by kernel_rfl) ?_ _
          refine NoPanic.normal ?_
          go_wp2_with fail
          go_roundw
          case rel => exact ⟨k + 1, sn1, sd, by omega, by go_num, HDb, Lib.hid ⟨HLN1.out, by have := HAL.out.2; omega⟩⟩
          case measure => simp [intOf]; omega

      · have hk2 : k < two.length := by have := HMX.out; omega
        obtain ⟨ad2, Ab2, cb2, rfl, hbl2, hi2, hb2, x20, x21, x22, x23, x24, x25, x26, x27⟩ := HRW3.out.ddo hk2
        have HI2 := Lib.hid hi2
        have HB2 := Lib.hid hb2
        obtain ⟨d2, hdd2⟩ : ∃ d, d = two[k] := ⟨_, rfl⟩
        rw [← hdd2] at HI2 HB2 x20 x21 x22 x23 x24 x25 x26 x27
        have HF2 := Lib.hid (show ∀ W : World, Ext w W → W.cell? (ad2.add (k * 8)) = some (.int .i64 d2.op) ∧ W.cell? ⟨(ad2.add (k * 8)).block, (ad2.add (k * 8)).off + 1, none⟩ = some (.string ⟨d2.name.toArray⟩) ∧ W.cell? ⟨(ad2.add (k * 8)).block, (ad2.add (k * 8)).off + 2, none⟩ = some (.string ⟨d2.to.toArray⟩) ∧ W.cell? ⟨(ad2.add (k * 8)).block, (ad2.add (k * 8)).off + 3, none⟩ = some (.int .i64 d2.at_) ∧ W.cell? ⟨(ad2.add (k * 8)).block, (ad2.add (k * 8)).off + 4, none⟩ = some (.slice Ab2 d2.b.length cb2) ∧ W.cell? ⟨(ad2.add (k * 8)).block, (ad2.add (k * 8)).off + 5, none⟩ = some (.int .i64 d2.n) ∧ W.cell? ⟨(ad2.add (k * 8)).block, (ad2.add (k * 8)).off + 6, none⟩ = some (.int .i64 d2.keep) ∧ W.cell? ⟨(ad2.add (k * 8)).block, (ad2.add (k * 8)).off + 7, none⟩ = some (.int .i64 d2.tear) from fun W he => by
          have hbk : (ad2.add (k * 8)).block < w.heap.size := by rw [addb]; exact hbl2
          exact ⟨cell_ext x20 hbk he, cell_ext x21 hbk he, cell_ext x22 hbk he, cell_ext x23 hbk he, cell_ext x24 hbk he, cell_ext x25 hbk he, cell_ext x26 hbk he, cell_ext x27 hbk he⟩)
        clear hi2 hb2 hdd2 hbl2 x20 x21 x22 x23 x24 x25 x26 x27
        obtain ⟨cc2, hcc2⟩ : ∃ c, c = (doesS sd d2).1 := ⟨_, rfl⟩
        obtain ⟨sn2, hsn2⟩ : ∃ x, x = (doesS sd d2).2 := ⟨_, rfl⟩
        have HE2 := Lib.hid (show doesS sd d2 = (cc2, sn2) by rw [hcc2, hsn2])
        have HLN2 := Lib.hid (show sn2.acts.length ≤ 120 + (k + 1) by rw [hsn2]; have h1 := does_len sd d2; have h2 := HAL.out; omega)
        have hne2 : (cc2 != cc2) = false := by simp
        clear hcc2 hsn2
        have hd1 : decide ((k : Int) < (one.length : Int)) = false := decide_eq_false (by omega)
        have hd2 : decide ((k : Int) < (two.length : Int)) = true := decide_eq_true (by omega)
        have hki : (k : Int) < (two.length : Int) := by omega
        have hk0 : (0 : Int) ≤ (k : Int) := by omega
        have HS0 := Lib.hid (show ∀ W : World, Ext w W → (fun W => W.cell? (ad2.add (k * 8)) = some (.int .i64 d2.op) ∧ W.cell? ⟨(ad2.add (k * 8)).block, (ad2.add (k * 8)).off + 1, none⟩ = some (.string ⟨d2.name.toArray⟩) ∧ W.cell? ⟨(ad2.add (k * 8)).block, (ad2.add (k * 8)).off + 2, none⟩ = some (.string ⟨d2.to.toArray⟩) ∧ W.cell? ⟨(ad2.add (k * 8)).block, (ad2.add (k * 8)).off + 3, none⟩ = some (.int .i64 d2.at_) ∧ W.cell? ⟨(ad2.add (k * 8)).block, (ad2.add (k * 8)).off + 4, none⟩ = some (.slice Ab2 d2.b.length cb2) ∧ W.cell? ⟨(ad2.add (k * 8)).block, (ad2.add (k * 8)).off + 5, none⟩ = some (.int .i64 d2.n) ∧ W.cell? ⟨(ad2.add (k * 8)).block, (ad2.add (k * 8)).off + 6, none⟩ = some (.int .i64 d2.keep) ∧ W.cell? ⟨(ad2.add (k * 8)).block, (ad2.add (k * 8)).off + 7, none⟩ = some (.int .i64 d2.tear)) W from fun W he => HF2.out W he)
        have H0 := Lib.hid (HS0.out _ HDr.out.ext)
        go_upto_region 12 with fail
        refine wpF_region (fun W => W.cell? (ad2.add (k * 8)) = some (.int .i64 d2.op) ∧ W.cell? ⟨(ad2.add (k * 8)).block, (ad2.add (k * 8)).off + 1, none⟩ = some (.string ⟨d2.name.toArray⟩) ∧ W.cell? ⟨(ad2.add (k * 8)).block, (ad2.add (k * 8)).off + 2, none⟩ = some (.string ⟨d2.to.toArray⟩) ∧ W.cell? ⟨(ad2.add (k * 8)).block, (ad2.add (k * 8)).off + 3, none⟩ = some (.int .i64 d2.at_) ∧ W.cell? ⟨(ad2.add (k * 8)).block, (ad2.add (k * 8)).off + 4, none⟩ = some (.slice Ab2 d2.b.length cb2) ∧ W.cell? ⟨(ad2.add (k * 8)).block, (ad2.add (k * 8)).off + 5, none⟩ = some (.int .i64 d2.n) ∧ W.cell? ⟨(ad2.add (k * 8)).block, (ad2.add (k * 8)).off + 6, none⟩ = some (.int .i64 d2.keep) ∧ W.cell? ⟨(ad2.add (k * 8)).block, (ad2.add (k * 8)).off + 7, none⟩ = some (.int .i64 d2.tear)) (fun _ => True) 99 40 (by kernel_rfl) (by kernel_rfl) ?_
        refine wpF_take0 (i := 0) (v := ?v75) rfl (by kernel_rfl) (by kernel_rfl) (by kernel_rfl) (fun _ _ _ h => h) (by kernel_rfl) (Or.inl ⟨by rfl, ?hy75⟩) H0.out (fun _ => trivial) ?rest75
        case hy75 => (intro W hSW; (try dsimp only at hSW); go_simp; (try with_reducible rfl))
        (try simp only [Act.put, List.setIfInBounds_toArray, List.set_cons_zero, List.set_cons_succ])
        refine wpF_take0 (i := 1) (v := ?v76) rfl (by kernel_rfl) (by kernel_rfl) (by kernel_rfl) (fun _ _ _ h => h) (by kernel_rfl) (Or.inl ⟨by rfl, ?hy76⟩) H0.out (fun _ => trivial) ?rest76
        case hy76 => (intro W hSW; (try dsimp only at hSW); go_simp; (try with_reducible rfl))
        (try simp only [Act.put, List.setIfInBounds_toArray, List.set_cons_zero, List.set_cons_succ])
        refine wpF_take0 (i := 2) (v := ?v77) rfl (by kernel_rfl) (by kernel_rfl) (by kernel_rfl) (fun _ _ _ h => h) (by kernel_rfl) (Or.inl ⟨by rfl, ?hy77⟩) H0.out (fun _ => trivial) ?rest77
        case hy77 => (intro W hSW; (try dsimp only at hSW); go_simp; (try with_reducible rfl))
        (try simp only [Act.put, List.setIfInBounds_toArray, List.set_cons_zero, List.set_cons_succ])
        refine wpF_take0 (i := 3) (v := ?v78) rfl (by kernel_rfl) (by kernel_rfl) (by kernel_rfl) (fun _ _ _ h => h) (by kernel_rfl) (Or.inl ⟨by rfl, ?hy78⟩) H0.out (fun _ => trivial) ?rest78
        case hy78 => (intro W hSW; (try dsimp only at hSW); go_simp; (try with_reducible rfl))
        (try simp only [Act.put, List.setIfInBounds_toArray, List.set_cons_zero, List.set_cons_succ])
        refine wpF_take0 (i := 4) (v := ?v79) rfl (by kernel_rfl) (by kernel_rfl) (by kernel_rfl) (fun _ _ _ h => h) (by kernel_rfl) (Or.inl ⟨by rfl, ?hy79⟩) H0.out (fun _ => trivial) ?rest79
        case hy79 => (intro W hSW; (try dsimp only at hSW); go_simp; (try with_reducible rfl))
        (try simp only [Act.put, List.setIfInBounds_toArray, List.set_cons_zero, List.set_cons_succ])
        refine wpF_take0 (i := 5) (v := undef) rfl (by kernel_rfl) (by kernel_rfl) (by kernel_rfl) (fun _ _ _ h => h) (by kernel_rfl) (Or.inr ⟨by rfl, rfl⟩) H0.out (fun _ => trivial) ?rest80
        (try simp only [Act.put, List.setIfInBounds_toArray, List.set_cons_zero, List.set_cons_succ])
        refine wpF_take0 (i := 6) (v := undef) rfl (by kernel_rfl) (by kernel_rfl) (by kernel_rfl) (fun _ _ _ h => h) (by kernel_rfl) (Or.inr ⟨by rfl, rfl⟩) H0.out (fun _ => trivial) ?rest81
        (try simp only [Act.put, List.setIfInBounds_toArray, List.set_cons_zero, List.set_cons_succ])
        refine wpF_take0 (i := 7) (v := undef) rfl (by kernel_rfl) (by kernel_rfl) (by kernel_rfl) (fun _ _ _ h => h) (by kernel_rfl) (Or.inr ⟨by rfl, rfl⟩) H0.out (fun _ => trivial) ?rest82
        (try simp only [Act.put, List.setIfInBounds_toArray, List.set_cons_zero, List.set_cons_succ])
        refine wpF_take0 (i := 8) (v := undef) rfl (by kernel_rfl) (by kernel_rfl) (by kernel_rfl) (fun _ _ _ h => h) (by kernel_rfl) (Or.inr ⟨by rfl, rfl⟩) H0.out (fun _ => trivial) ?rest83
        (try simp only [Act.put, List.setIfInBounds_toArray, List.set_cons_zero, List.set_cons_succ])
        refine wpF_take0 (i := 9) (v := undef) rfl (by kernel_rfl) (by kernel_rfl) (by kernel_rfl) (fun _ _ _ h => h) (by kernel_rfl) (Or.inr ⟨by rfl, rfl⟩) H0.out (fun _ => trivial) ?rest84
        (try simp only [Act.put, List.setIfInBounds_toArray, List.set_cons_zero, List.set_cons_succ])
        refine wpF_take0 (i := 10) (v := undef) rfl (by kernel_rfl) (by kernel_rfl) (by kernel_rfl) (fun _ _ _ h => h) (by kernel_rfl) (Or.inr ⟨by rfl, rfl⟩) H0.out (fun _ => trivial) ?rest85
        (try simp only [Act.put, List.setIfInBounds_toArray, List.set_cons_zero, List.set_cons_succ])
        refine wpF_take0 (i := 11) (v := undef) rfl (by kernel_rfl) (by kernel_rfl) (by kernel_rfl) (fun _ _ _ h => h) (by kernel_rfl) (Or.inr ⟨by rfl, rfl⟩) H0.out (fun _ => trivial) ?rest86
        (try simp only [Act.put, List.setIfInBounds_toArray, List.set_cons_zero, List.set_cons_succ])
        refine wpF_take0 (i := 12) (v := undef) rfl (by kernel_rfl) (by kernel_rfl) (by kernel_rfl) (fun _ _ _ h => h) (by kernel_rfl) (Or.inr ⟨by rfl, rfl⟩) H0.out (fun _ => trivial) ?rest87
        (try simp only [Act.put, List.setIfInBounds_toArray, List.set_cons_zero, List.set_cons_succ])
        refine wpF_take0 (i := 13) (v := undef) rfl (by kernel_rfl) (by kernel_rfl) (by kernel_rfl) (fun _ _ _ h => h) (by kernel_rfl) (Or.inr ⟨by rfl, rfl⟩) H0.out (fun _ => trivial) ?rest88
        (try simp only [Act.put, List.setIfInBounds_toArray, List.set_cons_zero, List.set_cons_succ])
        refine wpF_take0 (i := 14) (v := undef) rfl (by kernel_rfl) (by kernel_rfl) (by kernel_rfl) (fun _ _ _ h => h) (by kernel_rfl) (Or.inr ⟨by rfl, rfl⟩) H0.out (fun _ => trivial) ?rest89
        (try simp only [Act.put, List.setIfInBounds_toArray, List.set_cons_zero, List.set_cons_succ])
        refine wpF_take0 (i := 15) (v := undef) rfl (by kernel_rfl) (by kernel_rfl) (by kernel_rfl) (fun _ _ _ h => h) (by kernel_rfl) (Or.inr ⟨by rfl, rfl⟩) H0.out (fun _ => trivial) ?rest90
        (try simp only [Act.put, List.setIfInBounds_toArray, List.set_cons_zero, List.set_cons_succ])
        refine wpF_take0 (i := 16) (v := undef) rfl (by kernel_rfl) (by kernel_rfl) (by kernel_rfl) (fun _ _ _ h => h) (by kernel_rfl) (Or.inr ⟨by rfl, rfl⟩) H0.out (fun _ => trivial) ?rest91
        (try simp only [Act.put, List.setIfInBounds_toArray, List.set_cons_zero, List.set_cons_succ])
        refine wpF_take0 (i := 17) (v := undef) rfl (by kernel_rfl) (by kernel_rfl) (by kernel_rfl) (fun _ _ _ h => h) (by kernel_rfl) (Or.inr ⟨by rfl, rfl⟩) H0.out (fun _ => trivial) ?rest92
        (try simp only [Act.put, List.setIfInBounds_toArray, List.set_cons_zero, List.set_cons_succ])
        refine wpF_take0 (i := 18) (v := ?v93) rfl (by kernel_rfl) (by kernel_rfl) (by kernel_rfl) (fun _ _ _ h => h) (by kernel_rfl) (Or.inl ⟨by rfl, ?hy93⟩) H0.out (fun _ => trivial) ?rest93
        case hy93 => (intro W hSW; (try dsimp only at hSW); go_simp; (try with_reducible rfl))
        (try simp only [Act.put, List.setIfInBounds_toArray, List.set_cons_zero, List.set_cons_succ])
        refine wpF_take0 (i := 19) (v := ?v94) rfl (by kernel_rfl) (by kernel_rfl) (by kernel_rfl) (fun _ _ _ h => h) (by kernel_rfl) (Or.inl ⟨by rfl, ?hy94⟩) H0.out (fun _ => trivial) ?rest94
        case hy94 => (intro W hSW; (try dsimp only at hSW); go_simp; (try with_reducible rfl))
        (try simp only [Act.put, List.setIfInBounds_toArray, List.set_cons_zero, List.set_cons_succ])
        refine wpF_take0 (i := 20) (v := ?v95) rfl (by kernel_rfl) (by kernel_rfl) (by kernel_rfl) (fun _ _ _ h => h) (by kernel_rfl) (Or.inl ⟨by rfl, ?hy95⟩) H0.out (fun _ => trivial) ?rest95
        case hy95 => (intro W hSW; (try dsimp only at hSW); go_simp; (try with_reducible rfl))
        (try simp only [Act.put, List.setIfInBounds_toArray, List.set_cons_zero, List.set_cons_succ])
        refine wpF_take0 (i := 21) (v := ?v96) rfl (by kernel_rfl) (by kernel_rfl) (by kernel_rfl) (fun _ _ _ h => h) (by kernel_rfl) (Or.inl ⟨by rfl, ?hy96⟩) H0.out (fun _ => trivial) ?rest96
        case hy96 => (intro W hSW; (try dsimp only at hSW); go_simp; (try with_reducible rfl))
        (try simp only [Act.put, List.setIfInBounds_toArray, List.set_cons_zero, List.set_cons_succ])
        refine wpF_take0 (i := 22) (v := ?v97) rfl (by kernel_rfl) (by kernel_rfl) (by kernel_rfl) (fun _ _ _ h => h) (by kernel_rfl) (Or.inl ⟨by rfl, ?hy97⟩) H0.out (fun _ => trivial) ?rest97
        case hy97 => (intro W hSW; (try dsimp only at hSW); go_simp; (try with_reducible rfl))
        (try simp only [Act.put, List.setIfInBounds_toArray, List.set_cons_zero, List.set_cons_succ])
        refine wpF_take0 (i := 23) (v := ?v98) rfl (by kernel_rfl) (by kernel_rfl) (by kernel_rfl) (fun _ _ _ h => h) (by kernel_rfl) (Or.inl ⟨by rfl, ?hy98⟩) H0.out (fun _ => trivial) ?rest98
        case hy98 => (intro W hSW; (try dsimp only at hSW); go_simp; (try with_reducible rfl))
        (try simp only [Act.put, List.setIfInBounds_toArray, List.set_cons_zero, List.set_cons_succ])
        refine wpF_take0 (i := 24) (v := ?v99) rfl (by kernel_rfl) (by kernel_rfl) (by kernel_rfl) (fun _ _ _ h => h) (by kernel_rfl) (Or.inl ⟨by rfl, ?hy99⟩) H0.out (fun _ => trivial) ?rest99
        case hy99 => (intro W hSW; (try dsimp only at hSW); go_simp; (try with_reducible rfl))
        (try simp only [Act.put, List.setIfInBounds_toArray, List.set_cons_zero, List.set_cons_succ])
        refine wpF_take0 (i := 25) (v := ?v100) rfl (by kernel_rfl) (by kernel_rfl) (by kernel_rfl) (fun _ _ _ h => h) (by kernel_rfl) (Or.inl ⟨by rfl, ?hy100⟩) H0.out (fun _ => trivial) ?rest100
        case hy100 => (intro W hSW; (try dsimp only at hSW); go_simp; (try with_reducible rfl))
        (try simp only [Act.put, List.setIfInBounds_toArray, List.set_cons_zero, List.set_cons_succ])
        refine wpF_take0 (i := 26) (v := ?v101) rfl (by kernel_rfl) (by kernel_rfl) (by kernel_rfl) (fun _ _ _ h => h) (by kernel_rfl) (Or.inl ⟨by rfl, ?hy101⟩) H0.out (fun _ => trivial) ?rest101
        case hy101 => (intro W hSW; (try dsimp only at hSW); go_simp; (try with_reducible rfl))
        (try simp only [Act.put, List.setIfInBounds_toArray, List.set_cons_zero, List.set_cons_succ])
        refine wpF_take0 (i := 27) (v := ?v102) rfl (by kernel_rfl) (by kernel_rfl) (by kernel_rfl) (fun _ _ _ h => h) (by kernel_rfl) (Or.inl ⟨by rfl, ?hy102⟩) H0.out (fun _ => trivial) ?rest102
        case hy102 => (intro W hSW; (try dsimp only at hSW); go_simp; (try with_reducible rfl))
        (try simp only [Act.put, List.setIfInBounds_toArray, List.set_cons_zero, List.set_cons_succ])
        refine wpF_take0 (i := 28) (v := ?v103) rfl (by kernel_rfl) (by kernel_rfl) (by kernel_rfl) (fun _ _ _ h => h) (by kernel_rfl) (Or.inl ⟨by rfl, ?hy103⟩) H0.out (fun _ => trivial) ?rest103
        case hy103 => (intro W hSW; (try dsimp only at hSW); go_simp; (try with_reducible rfl))
        (try simp only [Act.put, List.setIfInBounds_toArray, List.set_cons_zero, List.set_cons_succ])
        refine wpF_take0 (i := 29) (v := ?v104) rfl (by kernel_rfl) (by kernel_rfl) (by kernel_rfl) (fun _ _ _ h => h) (by kernel_rfl) (Or.inl ⟨by rfl, ?hy104⟩) H0.out (fun _ => trivial) ?rest104
        case hy104 => (intro W hSW; (try dsimp only at hSW); go_simp; (try with_reducible rfl))
        (try simp only [Act.put, List.setIfInBounds_toArray, List.set_cons_zero, List.set_cons_succ])
        refine wpF_take0 (i := 31) (v := ?v105) rfl (by kernel_rfl) (by kernel_rfl) (by kernel_rfl) (fun _ _ _ h => h) (by kernel_rfl) (Or.inl ⟨by rfl, ?hy105⟩) H0.out (fun _ => trivial) ?rest105
        case hy105 => (intro W hSW; (try dsimp only at hSW); go_simp; (try with_reducible rfl))
        (try simp only [Act.put, List.setIfInBounds_toArray, List.set_cons_zero, List.set_cons_succ])
        refine wpF_take0 (i := 32) (v := ?v106) rfl (by kernel_rfl) (by kernel_rfl) (by kernel_rfl) (fun _ _ _ h => h) (by kernel_rfl) (Or.inl ⟨by rfl, ?hy106⟩) H0.out (fun _ => trivial) ?rest106
        case hy106 => (intro W hSW; (try dsimp only at hSW); go_simp; (try with_reducible rfl))
        (try simp only [Act.put, List.setIfInBounds_toArray, List.set_cons_zero, List.set_cons_succ])
        refine wpF_take0 (i := 33) (v := ?v107) rfl (by kernel_rfl) (by kernel_rfl) (by kernel_rfl) (fun _ _ _ h => h) (by kernel_rfl) (Or.inl ⟨by rfl, ?hy107⟩) H0.out (fun _ => trivial) ?rest107
        case hy107 => (intro W hSW; (try dsimp only at hSW); go_simp; (try with_reducible rfl))
        (try simp only [Act.put, List.setIfInBounds_toArray, List.set_cons_zero, List.set_cons_succ])
        refine wpF_take0 (i := 34) (v := ?v108) rfl (by kernel_rfl) (by kernel_rfl) (by kernel_rfl) (fun _ _ _ h => h) (by kernel_rfl) (Or.inl ⟨by rfl, ?hy108⟩) H0.out (fun _ => trivial) ?rest108
        case hy108 => (intro W hSW; (try dsimp only at hSW); go_simp; (try with_reducible rfl))
        (try simp only [Act.put, List.setIfInBounds_toArray, List.set_cons_zero, List.set_cons_succ])
        refine wpF_take0 (i := 35) (v := ?v109) rfl (by kernel_rfl) (by kernel_rfl) (by kernel_rfl) (fun _ _ _ h => h) (by kernel_rfl) (Or.inl ⟨by rfl, ?hy109⟩) H0.out (fun _ => trivial) ?rest109
        case hy109 => (intro W hSW; (try dsimp only at hSW); go_simp; (try with_reducible rfl))
        (try simp only [Act.put, List.setIfInBounds_toArray, List.set_cons_zero, List.set_cons_succ])
        refine wpF_step (i := 30) (by kernel_rfl) rfl (fun K hK => ?_)
        go_simp
        refine (HDr.out.op (i := 0) rfl (fun M D hX => does_calls _ p M D _ sd d2 _ hX HI2.out (HB2.out.ext HDr.out.ext) HLD.out)).mono ?_
        rw [HE2.out]
        rintro e wc ⟨rfl, HDc⟩
        change Hid (DkS_ w wc [(p, sn2), (q, sc), (pe, sc), (pf, sd)]) at HDc
        have Hc := Lib.hid (HS0.out _ HDc.out.ext)
        (try go_wp2_with fail)
        refine hK.out _ _ Hc.out (fun _ => trivial) ?_
        clear hK K
        (try simp only [Act.put, List.setIfInBounds_toArray, List.set_cons_zero, List.set_cons_succ])
        refine wpF_step (i := 36) (by kernel_rfl) rfl (fun K hK => ?_)
        go_simp
        refine (HDc.out.op (i := 3) rfl (fun M D hX => does_calls _ pf M D _ sd d2 _ hX HI2.out (HB2.out.ext HDc.out.ext) HLD.out)).mono ?_
        rw [HE2.out]
        rintro e wd ⟨rfl, HDd⟩
        change Hid (DkS_ w wd [(p, sn2), (q, sc), (pe, sc), (pf, sn2)]) at HDd
        have Hd := Lib.hid (HS0.out _ HDd.out.ext)
        (try go_wp2_with fail)
        refine hK.out _ _ Hd.out (fun _ => trivial) ?_
        clear hK K
        (try simp only [Act.put, List.setIfInBounds_toArray, List.set_cons_zero, List.set_cons_succ])
        refine wpF_take0 (i := 37) (v := ?v110) rfl (by kernel_rfl) (by kernel_rfl) (by kernel_rfl) (fun _ _ _ h => h) (by kernel_rfl) (Or.inl ⟨by rfl, ?hy110⟩) Hd.out (fun _ => trivial) ?rest110
        case hy110 => (intro W hSW; (try dsimp only at hSW); go_simp; (try with_reducible rfl))
        (try simp only [Act.put, List.setIfInBounds_toArray, List.set_cons_zero, List.set_cons_succ])
        refine wpF_take0 (i := 38) (v := ?v111) rfl (by kernel_rfl) (by kernel_rfl) (by kernel_rfl) (fun _ _ _ h => h) (by kernel_rfl) (Or.inl ⟨by rfl, ?hy111⟩) Hd.out (fun _ => trivial) ?rest111
        case hy111 => (intro W hSW; (try dsimp only at hSW); go_simp; (try with_reducible rfl))
        (try simp only [Act.put, List.setIfInBounds_toArray, List.set_cons_zero, List.set_cons_succ])
        refine wpF_take0 (i := 39) (v := ?v112) rfl (by kernel_rfl) (by kernel_rfl) (by kernel_rfl) (fun _ _ _ h => h) (by kernel_rfl) (Or.inl ⟨by rfl, ?hy112⟩) Hd.out (fun _ => trivial) ?rest112
        case hy112 => (intro W hSW; (try dsimp only at hSW); go_simp; (try with_reducible rfl))
        (try simp only [Act.put, List.setIfInBounds_toArray, List.set_cons_zero, List.set_cons_succ])
        refine wpF_done (by kernel_rfl) ?_ _
        refine NoPanic.normal ?_
        go_wp2_with fail
        go_roundw
        case rel => exact ⟨k + 1, sc, sn2, by omega, by go_num, HDd, Lib.hid ⟨by have := HAL.out.1; omega, HLN2.out⟩⟩
        case measure => simp [intOf]; omega

    · obtain rfl : k = mx := by omega
      clear hlt
      have hpc : (pendF sc == pendF sc) = true := by simp
      have hpd : (pendF sd == pendF sd) = true := by simp
      go_wp2_with fail
      refine (same_calls w wr _ 1 2 q pe _ _ HDk.out rfl rfl rfl rfl).mono ?_
      rintro e wa ⟨rfl, HDa⟩
      go_wp2_with fail
      refine (same_calls w wa _ 0 3 p pf _ _ HDa.out rfl rfl rfl rfl).mono ?_
      rintro e wb ⟨rfl, HDb⟩
      go_wp2_with fail
      refine (HDb.out.look (i := 1) (Q := fun e w' => e = .returned (.int .i64 (pendF sc))) rfl fun M D hx => (Pending_calls wb q M D _ hx).mono fun e w' ⟨h1, h2⟩ => ⟨h1, h2 ▸ Ext.refl _⟩).mono ?_
      rintro e wc ⟨rfl, -, HDc⟩
      go_wp2_with fail
      refine (HDc.out.look (i := 2) (Q := fun e w' => e = .returned (.int .i64 (pendF sc))) rfl fun M D hx => (Pending_calls wc pe M D _ hx).mono fun e w' ⟨h1, h2⟩ => ⟨h1, h2 ▸ Ext.refl _⟩).mono ?_
      rintro e wd ⟨rfl, -, HDd⟩
      go_wp2_with fail
      refine (HDd.out.look (i := 0) (Q := fun e w' => e = .returned (.int .i64 (pendF sd))) rfl fun M D hx => (Pending_calls wd p M D _ hx).mono fun e w' ⟨h1, h2⟩ => ⟨h1, h2 ▸ Ext.refl _⟩).mono ?_
      rintro e we ⟨rfl, -, HDe⟩
      go_wp2_with fail
      refine (HDe.out.look (i := 3) (Q := fun e w' => e = .returned (.int .i64 (pendF sd))) rfl fun M D hx => (Pending_calls we pf M D _ hx).mono fun e w' ⟨h1, h2⟩ => ⟨h1, h2 ▸ Ext.refl _⟩).mono ?_
      rintro e wf ⟨rfl, -, HDf⟩
      go_wp2_with fail
      refine (awake_calls wf).mono ?_
      rintro e wz ⟨rfl, hx⟩
      have HXZ := Lib.hid (HDf.out.ext.trans hx)
      clear hx
      go_wp2_with fail
      go_ret
      exact ⟨rfl, HXZ.out⟩

end Go.Proofs.Ytjjhmknlhfijjaa
