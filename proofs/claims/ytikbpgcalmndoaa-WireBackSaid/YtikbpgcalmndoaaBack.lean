/-
  WireBack.
-/
import Derived.Test.YtikbpgcalmndoaaLawRows
import Derived.Test.YtikbpgcalmndoaaScanTx
set_option linter.unusedVariables false
set_option linter.unusedSimpArgs false
namespace Go.Proofs.Ytikbpgcalmndoaa
open Go.RowKit

/-- What is put, behind one another. -/
def putAll (n : Nat) (t : List UInt8) (f : Bool) (m : List UInt8) : List UInt8 := digs n ++ (digs t.length ++ (t ++ (digs f.toNat ++ m)))
theorem putAll_len (n : Nat) (t : List UInt8) (f : Bool) (m : List UInt8) : (putAll n t f m).length = (digs n).length + (digs t.length).length + t.length + (digs f.toNat).length + m.length := by simp [putAll]; omega
theorem back_number (n : Nat) (t : List UInt8) (f : Bool) (m : List UInt8) (hn : n < 9223372036854775808) : ScS.number ⟨putAll n t f m, 0, 0⟩ = (n, ⟨putAll n t f m, (digs n).length, 0⟩) := by
  unfold ScS.number
  rw [if_pos rfl]
  simp only [List.drop_zero, Nat.zero_add]
  rw [show rd (putAll n t f m) = (n, (digs n).length, 0) from rd_digs n _ hn]
theorem back_text (n : Nat) (t : List UInt8) (f : Bool) (m : List UInt8) (ht : t.length < 9223372036854775808) :
    ScS.text ⟨putAll n t f m, (digs n).length, 0⟩ (t.length : Int) = (t, ⟨putAll n t f m, (digs n).length + (digs t.length).length + t.length, 0⟩) := by
  have h1 : (putAll n t f m).drop (digs n).length = digs t.length ++ (t ++ (digs f.toNat ++ m)) := by unfold putAll; rw [List.drop_left]
  have h2 : (putAll n t f m).drop ((digs n).length + (digs t.length).length) = t ++ (digs f.toNat ++ m) := by rw [← List.drop_drop, h1, List.drop_left]
  have h3 := putAll_len n t f m
  unfold ScS.text
  rw [if_pos rfl]
  simp only
  rw [h1, rd_digs _ _ ht]
  simp only [if_true, Int.toNat_natCast]
  rw [if_neg (by omega), if_neg (by omega), h2, List.take_left]
theorem back_flag (n : Nat) (t : List UInt8) (f : Bool) (m : List UInt8) :
    ScS.flag ⟨putAll n t f m, (digs n).length + (digs t.length).length + t.length, 0⟩ = (f, ⟨putAll n t f m, (digs n).length + (digs t.length).length + t.length + (digs f.toNat).length, 0⟩) := by
  have h1 : (putAll n t f m).drop ((digs n).length + (digs t.length).length + t.length) = digs f.toNat ++ m := by
    unfold putAll; rw [← List.drop_drop, ← List.drop_drop, List.drop_left, List.drop_left, List.drop_left]
  have hf : f.toNat ≤ 1 := by cases f <;> simp
  unfold ScS.flag
  rw [if_pos rfl]
  simp only
  rw [h1, rd_digs _ _ (by omega)]
  simp only [if_true]
  rw [if_neg (by omega)]
  cases f <;> rfl

set_option maxRecDepth 100000 in
set_option maxHeartbeats 8000000 in
theorem WireBack_walk (w : World) (n : Int) (hn : I64 n) (s : ByteArray) (f : Bool) (S : Nat → Prop) (v : Value) (p : List UInt8) (hr : Rs kByte w S v p) (S2 : Nat → Prop) (v2 : Value) (m : List UInt8) (hr2 : Rs kByte w S2 v2 m) :
    Calls Try.prog 13 #[.int .i64 n, .string s, .bool f, v, v2] w fun e w' => e = .returned (.bool true) ∧ Ext w w' := by
  have HP := Lib.hid hr.under
  have HM := Lib.hid hr2.under
  obtain ⟨A, c, rfl, hl, hc, hz, hrow⟩ := hr
  obtain ⟨A2, c2, rfl, hl2, hc2, hz2, hrow2⟩ := hr2
  clear hrow hrow2
  by_cases hbig : 131072 < s.size ∨ 131072 < p.length ∨ 131072 < m.length
  · have h2 : ∀ h1 : 131072 < s.size ∨ (s.size ≤ 131072 ∧ 131072 < p.length) ∨ (s.size ≤ 131072 ∧ p.length ≤ 131072 ∧ 131072 < m.length), Calls Try.prog 13 #[.int .i64 n, .string s, .bool f, .slice A p.length c, .slice A2 m.length c2] w fun e w' => e = .returned (.bool true) ∧ Ext w w' := by
      intro h1
      rcases h1 with h1 | ⟨h1, h2⟩ | ⟨h1, h2, h3⟩
      all_goals
        go_enter Try.func13, Try.ntmps13
        go_wp2_with fail
        refine (SumNil_calls _).mono ?_
        rintro e w' ⟨rfl, rfl⟩
        go_wp2
        go_ret
        exact ⟨rfl, Ext.refl _⟩
    exact h2 (by omega)
  have hs1 : s.size ≤ 131072 := by omega
  have hs2 : p.length ≤ 131072 := by omega
  have hs3 : m.length ≤ 131072 := by omega
  clear hbig
  have hn1 := hn.1
  have hn2 := hn.2
  obtain ⟨N, hN⟩ : ∃ N : Nat, N = n.toNat := ⟨_, rfl⟩
  have hmx : (if n < 0 then (0 : Int) else n) = (N : Int) := by split <;> omega
  have hN1 : N < 9223372036854775808 := by omega
  have hdN := digs_len N (by omega)
  have hdT := digs_len s.size (by omega)
  have hdF := digs_len f.toNat (by have : f.toNat ≤ 1 := by cases f <;> simp
                                   omega)
  have hn' : I64 n := hn
  have HN := Lib.hid hn'
  have HNN := Lib.hid hN
  clear hn hn' hN
  go_enter Try.func13, Try.ntmps13
  go_wp2_with fail
  refine (Number_calls _ (fun _ => True) _ [] n (Rs.nil _ _ _) HN.out (by simp)).mono ?_
  rw [← HNN.out, List.nil_append]
  rintro e1 w1 ⟨u1, rfl, ho, he⟩
  have HU := Lib.hid ho.rs
  have HE := Lib.hid he
  clear ho he
  go_wp2_with fail
  refine (Text_calls _ _ _ _ s HU.out (by omega)).mono ?_
  rintro e1 w2 ⟨u2, rfl, ho, he⟩
  have HU2 := Lib.hid ho.rs
  have HE2 := Lib.hid (HE.out.trans he)
  have hl2 : (digs N ++ digs s.size ++ s.data.toList).length ≤ 131100 := by
    have : s.data.toList.length = s.size := rfl
    simp only [List.length_append]; omega
  clear ho he HU HE
  go_wp2_with fail
  refine (Flag_calls _ _ _ _ f HU2.out (by omega)).mono ?_
  rintro e1 w3 ⟨u3, rfl, ho, he⟩
  have HU3 := Lib.hid ho.rs
  have HE3 := Lib.hid (HE2.out.trans he)
  have hl3 : (digs N ++ digs s.size ++ s.data.toList ++ digs f.toNat).length ≤ 131120 := by rw [List.length_append]; omega
  have hall : [digs N ++ digs s.size ++ s.data.toList ++ digs f.toNat, m].flatten = putAll N s.data.toList f m := by
    have : s.data.toList.length = s.size := rfl
    simp [putAll]
  obtain ⟨A3, c3, rfl, _⟩ := ho.rs
  have HALL := Lib.hid hall
  clear ho he HU2 HE2 hall hl2
  generalize (digs N ++ digs s.size ++ s.data.toList ++ digs f.toNat) = X at HU3 hl3 HALL
  go_wp2_with fail
  refine (Join_calls _ (fun _ => True) _ [X, m] (Rs.two (heap_alloc_new _ _) trivial ((HU3.out.alloc _).mono fun _ _ => trivial) (((HM.out.ext HE3.out).alloc _).mono fun _ _ => trivial)) (by simp [flen]; omega)).mono ?_
  rw [HALL.out]
  rintro e1 w4 ⟨u4, rfl, ho, he⟩
  have HU4 := Lib.hid ho.rs
  have HE4 := Lib.hid ((HE3.out.alloc _).trans he)
  have hle4 := HE4.out.le
  clear ho he HU3 HE3
  go_wp2_with fail
  refine (Over_calls _ _ _ _ HU4.out).mono ?_
  rintro e1 w5 ⟨sp, sq, rfl, hsc, he⟩
  have HSC := Lib.hid hsc
  have HE5 := Lib.hid (HE4.out.trans he)
  have hlt : s.data.toList.length = s.size := rfl
  have hleft : (putAll N s.data.toList f m).length - ((digs N).length + (digs s.data.toList.length).length + s.data.toList.length + (digs f.toNat).length) = m.length := by rw [putAll_len]; omega
  have B1 := Lib.hid (back_number N s.data.toList f m hN1)
  have B2 := Lib.hid (back_text N s.data.toList f m (by omega))
  have B3 := Lib.hid (back_flag N s.data.toList f m)
  have HLEFT := Lib.hid hleft
  have hstr : (⟨s.data.toList.toArray⟩ : ByteArray) = s := by rw [Array.toArray_toList]
  have HSTR := Lib.hid hstr
  have HLT := Lib.hid hlt
  clear hsc he HU4 HE4 hlt hleft hstr
  generalize putAll N s.data.toList f m = Y at HSC B1 B2 B3 HLEFT
  go_wp2_with fail
  refine (ScNumber_calls _ _ sp sq _ HSC.out).mono ?_
  rw [B1.out]
  rintro e1 w6 ⟨rfl, hsc, hup⟩
  have HSC6 := Lib.hid hsc
  have HE6 := Lib.hid (hup.ext HE5.out (fun k hk => Nat.le_trans hle4 (HSC.out.from_ k hk)))
  clear hsc hup HSC HE5 B1
  go_wp2_with fail
  rw [show (s.size : Int) = (s.data.toList.length : Int) from rfl]
  refine (ScText_calls _ _ sp sq _ HSC6.out _).mono ?_
  rw [B2.out]
  rintro e1 w7 ⟨rfl, hsc, hup⟩
  have HSC7 := Lib.hid hsc
  have HE7 := Lib.hid (hup.ext HE6.out (fun k hk => Nat.le_trans hle4 (HSC6.out.from_ k hk)))
  dsimp only
  rw [show (⟨s.data.toList.toArray⟩ : ByteArray) = s by rw [Array.toArray_toList]]
  clear hsc hup HSC6 HE6 B2
  go_wp2_with fail
  refine (ScFlag_calls _ _ sp sq _ HSC7.out).mono ?_
  rw [B3.out]
  rintro e1 w8 ⟨rfl, hsc, hup⟩
  have HSC8 := Lib.hid hsc
  have HE8 := Lib.hid (hup.ext HE7.out (fun k hk => Nat.le_trans hle4 (HSC7.out.from_ k hk)))
  clear hsc hup HSC7 HE7 B3
  go_wp2_with fail
  refine (Left_calls _ _ sp sq _ HSC8.out).mono ?_
  rw [HLEFT.out]
  rintro e1 w9 ⟨rfl, mm, rfl⟩
  have HSC9 := Lib.hid (HSC8.out.drewN mm)
  have HE9 := Lib.hid (HE8.out.drewN mm)
  clear HSC8 HE8
  generalize w8.drewN mm = w9 at HSC9 HE9 ⊢
  go_wp2_with fail
  refine (Err_calls _ _ sp sq _ HSC9.out).mono ?_
  rintro e1 w10 ⟨rfl, rfl⟩
  clear HSC9
  by_cases hpl : 65536 < p.length
  · have hrec : record p = ([], 4) := by unfold record; rw [if_pos hpl]
    have HREC := Lib.hid hrec
    clear hrec
    go_wp2_with fail
    refine (Record_calls _ _ _ _ (HP.out.ext HE9.out)).mono ?_
    rw [HREC.out]
    rintro e w1 ⟨u, rfl, ho, he⟩
    obtain ⟨Au, cu, rfl, _⟩ := ho.rs
    have HE10 := Lib.hid (HE9.out.trans he)
    clear ho he
    go_wp2
    go_ret
    exact ⟨rfl, HE10.out⟩
  have hrec : record p = (rcd p, 0) := by unfold record; rw [if_neg hpl]
  have HREC := Lib.hid hrec
  have hpk := pick_rcd p m (by omega)
  have hrl := rcd_len p
  have hdl := digs_len p.length (by omega)
  have hrl1 : p.length + 6 ≤ (rcd p).length := by omega
  have hrl2 : (rcd p).length ≤ 65550 := by omega
  have hpl' : (p.length : Int) ≤ 65536 := by omega
  have hrl3 : (p.length : Int) + 6 ≤ ((rcd p).length : Int) := by omega
  have hfl : [rcd p, m].flatten = rcd p ++ m := by simp
  have HFL := Lib.hid hfl
  have HPK := Lib.hid hpk
  clear hrec hpk hrl hdl hfl
  generalize rcd p = R at HREC HPK hrl1 hrl2 hrl3 HFL
  go_wp2_with fail
  refine (Record_calls _ _ _ _ (HP.out.ext HE9.out)).mono ?_
  rw [HREC.out]
  rintro e w11 ⟨u, rfl, ho, he⟩
  have HX := Lib.hid ho.rs
  obtain ⟨Au, cu, rfl, _⟩ := ho.rs
  have HE10 := Lib.hid (HE9.out.trans he)
  clear ho he HE9
  go_wp2_with fail
  refine (Join_calls _ (fun _ => True) _ [R, m] (Rs.two (heap_alloc_new _ _) trivial ((HX.out.alloc _).mono fun _ _ => trivial) (((HM.out.ext HE10.out).alloc _).mono fun _ _ => trivial)) (by simp [flen]; omega)).mono ?_
  rw [HFL.out]
  rintro e1 w12 ⟨u4, rfl, ho, he⟩
  have HU4 := Lib.hid ho.rs
  have HE12 := Lib.hid ((HE10.out.alloc _).trans he)
  clear ho he HE10
  go_wp2_with fail
  refine (Pick_calls _ _ _ _ HU4.out).mono ?_
  rw [HPK.out]
  rintro e w13 ⟨u, rfl, ho, he⟩
  have HQ := Lib.hid ho.rs
  have HE13 := Lib.hid (HE12.out.trans he)
  clear ho he HE12
  go_wp2_with fail
  refine (Equal_same _ _ _ _ _ _ HQ.out (HP.out.ext HE13.out)).mono ?_
  rintro e w14 ⟨rfl, rfl⟩
  go_wp2
  go_ret
  exact ⟨rfl, HE13.out⟩
end Go.Proofs.Ytikbpgcalmndoaa
