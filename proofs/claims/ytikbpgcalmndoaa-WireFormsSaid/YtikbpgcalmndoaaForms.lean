/-
  WireForms.
-/
import Derived.Test.YtikbpgcalmndoaaFormsLaw
import Derived.Test.YtikbpgcalmndoaaLawRows
import Derived.Deep.DeepCutAuto
set_option linter.unusedVariables false
set_option linter.unusedSimpArgs false
namespace Go.Proofs.Ytikbpgcalmndoaa
open Go.RowKit

theorem digs_300 : digs 300 = [130, 44] := by
  unfold digs
  rw [show 300 / 128 = 2 from rfl, hi_pos 2 (by omega), show 2 / 128 = 0 from rfl, hi_zero]; rfl

set_option maxRecDepth 100000 in
set_option maxHeartbeats 8000000 in
theorem WireForms_walk (w : World) (S : Nat → Prop) (v : Value) (b : List UInt8) (hr : Rs kByte w S v b) :
    Calls Try.prog 12 #[v] w fun e w' => e = .returned (.bool true) ∧ Ext w w' := by
  have HB := Lib.hid hr.under
  obtain ⟨A, c, rfl, hl, hc, hz, hrow⟩ := hr
  clear hrow
  have HN300 := Lib.hid (fun (W : World) => (Number_calls W (fun _ => True) _ [] 300 (Rs.nil _ _ _) ⟨by omega, by omega⟩ (by simp)))
  by_cases hbig : 131072 < b.length
  · go_enter Try.func12, Try.ntmps12
    go_wp2_with fail
    refine (HN300.out _).mono ?_
    rintro e w1 ⟨u, rfl, ho, he⟩
    have hl2 : ([] ++ digs (300 : Int).toNat : List UInt8).length = 2 := by rw [show (300 : Int).toNat = 300 from rfl, digs_300]; rfl
    obtain ⟨A1, c1, rfl, _⟩ := ho.rs
    rw [hl2]
    have HE := Lib.hid he
    clear ho he hl2
    go_wp2
    go_ret
    exact ⟨rfl, HE.out⟩
  have hle : b.length ≤ 131072 := by omega
  clear hbig
  go_enter Try.func12, Try.ntmps12
  go_wp2_with fail
  refine (HN300.out _).mono ?_
  rintro e w1 ⟨u, rfl, ho, he⟩
  have hl2 : ([] ++ digs (300 : Int).toNat : List UInt8).length = 2 := by rw [show (300 : Int).toNat = 300 from rfl, digs_300]; rfl
  obtain ⟨A1, c1, rfl, _⟩ := ho.rs
  rw [hl2]
  have HE := Lib.hid he
  clear ho he hl2 HN300
  go_wp2_with fail
  refine (Over_calls _ _ _ _ (HB.out.ext HE.out)).mono ?_
  rintro e w2 ⟨p, q, rfl, hsc, he⟩
  have HSC := Lib.hid hsc
  have HE2 := Lib.hid (HE.out.trans he)
  have h1 := HE.out.le
  clear hsc he HE
  obtain ⟨n, k, e, hnum, hk, hn, he10, hf0, hf1⟩ := forms_number b
  have HNUM := Lib.hid hnum
  have HF0 := Lib.hid hf0
  have HF1 := Lib.hid hf1
  clear hnum hf0 hf1
  go_wp2_with fail
  refine (ScNumber_calls _ _ p q _ HSC.out).mono ?_
  rw [HNUM.out]
  rintro e1 w3 ⟨rfl, hsc, hup⟩
  have HSC3 := Lib.hid hsc
  have HE3 := Lib.hid (hup.ext HE2.out (fun k hk => Nat.le_trans h1 (HSC.out.from_ k hk)))
  have hpq : ∀ g, two p q g → w.heap.size ≤ g := fun g hg => Nat.le_trans h1 (HSC.out.from_ g hg)
  have HPQ := Lib.hid hpq
  clear hsc hup HSC HE2 hpq h1 HNUM
  go_upto_region 5 with fail
  go_cut [52] (fun s52 wx => s52 = .bool false ∧ Hid (Ext w wx))
  case first =>
    by_cases he : e = 0
    · subst he
      have HF := Lib.hid (HF0.out rfl)
      clear HF0 HF1
      have hkk : (b.length : Int) - ((b.length - k : Nat) : Int) = (k : Int) := by omega
      have hto := slice_to tBytes A b.length c .i64 (k : Int) k rfl (by omega)
      have hfrom := HB.out.to_ (h := k) rfl hk
      simp only [partV_eq, Nat.sub_zero] at hto hfrom
      have HFROM := Lib.hid hfrom
      clear hfrom
      go_wp2_with (go_at_call 30; refine (Err_calls _ _ p q _ HSC3.out).mono ?_; rintro e w' ⟨rfl, rfl⟩)
      refine (Number_calls _ (fun _ => True) _ [] (n : Int) (Rs.nil _ _ _) ⟨by omega, by omega⟩ (by simp)).mono ?_
      rintro e w4 ⟨u, rfl, ho, he⟩
      rw [Int.toNat_natCast, List.nil_append, HF.out] at ho
      have HU := Lib.hid ho.rs
      have HSC4 := Lib.hid (HSC3.out.ext he)
      have HE4 := Lib.hid (HE3.out.trans he)
      clear ho he
      go_wp2_with (go_at_call 29; refine (Left_calls _ _ p q _ HSC4.out).mono ?_; rintro e w' ⟨rfl, m, rfl⟩)
      have HEm := Lib.hid (HE4.out.drewN m)
      have HSCm := Lib.hid (HSC4.out.drewN m)
      refine (Equal_same _ _ _ _ _ _ (HU.out.drewN m) (HFROM.out.ext HEm.out)).mono ?_
      rintro e w5 ⟨rfl, rfl⟩
      go_wp2_with (go_at_call 30; refine (Err_calls _ _ p q _ HSCm.out).mono ?_; rintro e w' ⟨rfl, rfl⟩)
      go_meet
      exact ⟨rfl, HEm⟩
    · have hk0 := HF1.out he
      subst hk0
      have he1 : ((e : Int) == 0) = false := beq_eq_false_iff_ne.2 (by omega)
      have he2 : ((e : Int) != 0) = true := by rw [bne_iff_ne]; omega
      go_wp2_with (first | (go_at_call 30; refine (Err_calls _ _ p q _ HSC3.out).mono ?_; rintro e w' ⟨rfl, rfl⟩) | (go_at_call 29; refine (Left_calls _ _ p q _ HSC3.out).mono ?_; rintro e w' ⟨rfl, m, rfl⟩))
      go_meet
      exact ⟨rfl, Lib.hid (HE3.out.drewN _)⟩
  case rest =>
    obtain ⟨rfl, HE4⟩ := hcut
    clear HF0 HF1 HSC3 HE3 HPQ
    go_wp2_with fail
    refine (Over_calls _ _ _ _ (HB.out.ext HE4.out)).mono ?_
    rintro e5 w5 ⟨p, q, rfl, hsc, he⟩
    have HSC := Lib.hid hsc
    have HE5 := Lib.hid (HE4.out.trans he)
    have h1 := HE4.out.le
    clear hsc he HE4
    obtain ⟨t, k, e, hnum, hk, hn, he10, hf0, hf1⟩ := forms_text b
    have HNUM := Lib.hid hnum
    have HF0 := Lib.hid hf0
    have HF1 := Lib.hid hf1
    clear hnum hf0 hf1
    go_wp2_with fail
    refine (ScText_calls _ _ p q _ HSC.out _).mono ?_
    rw [HNUM.out]
    rintro e1 w3 ⟨rfl, hsc, hup⟩
    have HSC3 := Lib.hid hsc
    have HE3 := Lib.hid (hup.ext HE5.out (fun k hk => Nat.le_trans h1 (HSC.out.from_ k hk)))
    clear hsc hup HSC HE5 h1 HNUM
    go_upto_region 9 with fail
    go_cut [86] (fun s86 wx => s86 = .bool false ∧ Hid (Ext w wx))
    case first =>
      by_cases he : e = 0
      · subst he
        have HF := Lib.hid (HF0.out rfl)
        clear HF0 HF1
        have hkk : (b.length : Int) - ((b.length - k : Nat) : Int) = (k : Int) := by omega
        have hto := slice_to tBytes A b.length c .i64 (k : Int) k rfl (by omega)
        have hfrom := HB.out.to_ (h := k) rfl hk
        simp only [partV_eq, Nat.sub_zero] at hto hfrom
        have HFROM := Lib.hid hfrom
        clear hfrom
        go_wp2_with (go_at_call 30; refine (Err_calls _ _ p q _ HSC3.out).mono ?_; rintro e w' ⟨rfl, rfl⟩)
        refine (Text_calls _ (fun _ => True) _ [] ⟨t.toArray⟩ (Rs.nil _ _ _) (by show 0 + 9 + t.toArray.size ≤ _; rw [List.size_toArray]; omega)).mono ?_
        rintro e w4 ⟨u, rfl, ho, he⟩
        have hsz : (⟨t.toArray⟩ : ByteArray).size = t.length := List.size_toArray
        rw [hsz, List.nil_append] at ho
        have ho2 : Ow kByte 5 w4 w3.heap.size (w3.heap.size ≤ ·) u (digs t.length ++ t) := ho
        rw [HF.out] at ho2
        have HU := Lib.hid ho2.rs
        have HSC4 := Lib.hid (HSC3.out.ext he)
        have HE4 := Lib.hid (HE3.out.trans he)
        clear ho ho2 he hsz
        go_wp2_with (go_at_call 29; refine (Left_calls _ _ p q _ HSC4.out).mono ?_; rintro e w' ⟨rfl, m, rfl⟩)
        have HEm := Lib.hid (HE4.out.drewN m)
        have HSCm := Lib.hid (HSC4.out.drewN m)
        refine (Equal_same _ _ _ _ _ _ (HU.out.drewN m) (HFROM.out.ext HEm.out)).mono ?_
        rintro e w5 ⟨rfl, rfl⟩
        go_wp2_with (go_at_call 30; refine (Err_calls _ _ p q _ HSCm.out).mono ?_; rintro e w' ⟨rfl, rfl⟩)
        go_meet
        exact ⟨rfl, HEm⟩
      · have hk0 := HF1.out he
        subst hk0
        have he1 : ((e : Int) == 0) = false := beq_eq_false_iff_ne.2 (by omega)
        have he2 : ((e : Int) != 0) = true := by rw [bne_iff_ne]; omega
        go_wp2_with (first | (go_at_call 30; refine (Err_calls _ _ p q _ HSC3.out).mono ?_; rintro e w' ⟨rfl, rfl⟩) | (go_at_call 29; refine (Left_calls _ _ p q _ HSC3.out).mono ?_; rintro e w' ⟨rfl, m, rfl⟩))
        go_meet
        exact ⟨rfl, Lib.hid (HE3.out.drewN _)⟩
    case rest =>
      obtain ⟨rfl, HE6⟩ := hcut
      clear HF0 HF1 HSC3 HE3
      obtain ⟨pp, pk, pe, hp, hpe, hpl, hp0, hp1⟩ := forms_pick b
      have HP := Lib.hid hp
      have HP0 := Lib.hid hp0
      have HP1 := Lib.hid hp1
      clear hp hp0 hp1
      go_wp2_with fail
      refine (Pick_calls _ _ _ _ (HB.out.ext HE6.out)).mono ?_
      rw [HP.out]
      rintro e6 w6 ⟨u, rfl, ho, he⟩
      have HE7 := Lib.hid (HE6.out.trans he)
      have HU := Lib.hid ho.rs
      obtain ⟨Au, cu, rfl, _⟩ := ho.rs
      clear ho he
      by_cases he : pe = 0
      · subst he
        obtain ⟨g1, g2⟩ := HP0.out rfl
        clear HP0 HP1 HP
        have hto := slice_to tBytes A b.length c .i64 (pk : Int) pk rfl (by omega)
        have hfrom := HB.out.to_ (h := pk) rfl g1
        simp only [partV_eq, Nat.sub_zero] at hto hfrom
        have HFROM := Lib.hid hfrom
        have G2 := Lib.hid g2
        have hrec : record pp = (rcd pp, 0) := by unfold record; rw [if_neg (by omega)]
        have HREC := Lib.hid hrec
        have g1' : (pk : Int) ≤ (b.length : Int) := by omega
        clear hfrom g2 hrec
        go_wp2_with fail
        refine (Record_calls _ _ _ _ HU.out).mono ?_
        rw [HREC.out]
        rintro e8 w8 ⟨x, rfl, ho, he⟩
        rw [show (rcd pp, 0).1 = rcd pp from rfl, G2.out] at ho
        have HX := Lib.hid ho.rs
        have HE8 := Lib.hid (HE7.out.trans he)
        clear ho he
        go_wp2_with fail
        refine (Equal_same _ _ _ _ _ _ HX.out (HFROM.out.ext HE8.out)).mono ?_
        rintro e w9 ⟨rfl, rfl⟩
        go_wp2
        go_ret
        exact ⟨rfl, HE8.out⟩
      · obtain ⟨g1, g2⟩ := HP1.out he
        subst g1; subst g2
        have he2 : ((pe : Int) != 0) = true := by rw [bne_iff_ne]; omega
        go_wp2
        go_ret
        exact ⟨rfl, HE7.out⟩
end Go.Proofs.Ytikbpgcalmndoaa
