/-
  The walk of RosterBack.
-/
import Derived.Test.YthodhajjnjfbfaaRosLeave
set_option linter.unusedVariables false
set_option linter.unusedSimpArgs false
namespace Go.Proofs.Ythodhajjnjfbfaa
open Go.RowKit

theorem back_yes {l : List Int} {n : Int} (h : backB l n = true) (hb : hasB l n = true) : hasB (leaveL l n) n = false ∧ eqL (joinL (leaveL l n) n) l = true ∧ ((leaveL l n).length ≠ 0 → mayE l (leaveL l n) = 0 ∧ mayE (leaveL l n) l = 0) := by
  unfold backB at h
  rw [if_pos hb] at h
  simp only [Bool.and_eq_true, Bool.not_eq_true', Bool.or_eq_true, decide_eq_true_eq] at h
  exact ⟨h.1.1, h.1.2, fun h0 => h.2.resolve_left h0⟩
theorem back_no {l : List Int} {n : Int} (h : backB l n = true) (hb : hasB l n = false) : hasB (joinL l n) n = true ∧ mayE l (joinL l n) = 0 ∧ mayE (joinL l n) l = 0 ∧ eqL (leaveL (joinL l n) n) l = true := by
  unfold backB at h
  rw [if_neg (by rw [hb]; decide)] at h
  simp only [Bool.and_eq_true, decide_eq_true_eq] at h
  exact ⟨h.1.1.1, h.1.1.2, h.1.2, h.2⟩
theorem joinL_le (l : List Int) (n : Int) : (joinL l n).length ≤ l.length + 1 := by
  unfold joinL; split
  · omega
  · rw [isort_len]; simp

set_option maxRecDepth 100000 in
set_option maxHeartbeats 4000000 in
theorem RosterBack_walk (w : World) (S1 : Nat → Prop) (v1 : Value) (l : List Int) (h1 : Rs kInt w S1 v1 l) (n : Int) (hn : I64 n) :
    Calls Try.prog 10 #[v1, .int .i64 n] w fun e w' => e = .returned (.bool true) ∧ Ext w w' := by
  obtain ⟨A1, c1, rfl⟩ := h1.isS
  have H1 := Lib.hid h1.under
  have HN := Lib.hid hn
  clear h1 hn
  go_enter Try.func10, Try.ntmps10
  go_wp2_with fail
  refine (light_calls _ _ _ [l] (Rs.one_ (heap_new w _ rfl _) trivial ((H1.out.alloc _).mono fun _ _ => trivial))).mono ?_
  rintro e w' ⟨rfl, hw⟩
  have HE := Lib.hid (hw ▸ (Ext.refl w).alloc _ : Ext w w')
  clear hw
  cases hL : lightB [l]
  · have HL := Lib.hid hL
    clear hL
    go_wp2_with fail
    refine (awake_calls _).mono ?_
    rintro e wz ⟨rfl, hez⟩
    have HEZ := Lib.hid (HE.out.trans hez)
    clear hez
    go_wp2
    go_ret
    exact ⟨rfl, HEZ.out⟩
  · have HB := Lib.hid (lightB_mem hL (List.mem_singleton.2 rfl))
    clear hL
    cases hck : chk l
    · have HK := Lib.hid (chkE_no hck)
      clear hck
      go_wp2_with fail
      refine (Check_calls _ _ _ l (H1.out.ext HE.out)).mono ?_
      rw [HK.out]; rintro e wq ⟨rfl, rfl⟩
      go_wp2_with fail
      refine (awake_calls _).mono ?_
      rintro e wz ⟨rfl, hez⟩
      have HEZ := Lib.hid (HE.out.trans hez)
      clear hez
      go_wp2
      go_ret
      exact ⟨rfl, HEZ.out⟩
    · have HK := Lib.hid (chkE_yes hck)
      go_wp2_with fail
      refine (Check_calls _ _ _ l (H1.out.ext HE.out)).mono ?_
      rw [HK.out]; rintro e wq ⟨rfl, rfl⟩
      by_cases h0 : n < 0
      · have hd : decide (n < 0) = true := decide_eq_true h0
        clear hck
        go_wp2_with fail
        refine (awake_calls _).mono ?_
        rintro e wz ⟨rfl, hez⟩
        have HEZ := Lib.hid (HE.out.trans hez)
        clear hez
        go_wp2
        go_ret
        exact ⟨rfl, HEZ.out⟩
      · have hd : decide (n < 0) = false := decide_eq_false h0
        by_cases h6 : 6 < n
        · have hd6 : decide (6 < n) = true := decide_eq_true h6
          clear hck
          go_wp2_with fail
          refine (awake_calls _).mono ?_
          rintro e wz ⟨rfl, hez⟩
          have HEZ := Lib.hid (HE.out.trans hez)
          clear hez
          go_wp2
          go_ret
          exact ⟨rfl, HEZ.out⟩
        · have hd6 : decide (6 < n) = false := decide_eq_false h6
          have hbk := back hck (Int.not_lt.1 h0) (Int.not_lt.1 h6)
          clear h0 h6 hck
          cases hb : hasB l n
          · have HV := Lib.hid hb
            obtain ⟨q1, q2, q3, q4⟩ := back_no hbk hb
            have HQ1 := Lib.hid q1
            have HQ2 := Lib.hid q2
            have HQ3 := Lib.hid q3
            have HQ4 := Lib.hid q4
            clear q1 q2 q3 q4 hbk hb
            have HJL := Lib.hid (joinL_le l n)
            go_wp2_with fail
            refine (Votes_calls _ _ _ l n (H1.out.ext HE.out)).mono ?_
            rw [HV.out]; rintro e wq ⟨rfl, rfl⟩
            go_wp2_with fail
            refine (Join2_calls _ _ _ l (H1.out.ext HE.out) n HN.out (by have := HB.out; omega)).mono ?_
            rintro e wq ⟨u, rfl, ho, he⟩
            have HO := Lib.hid ho.rs
            replace HE := Lib.hid (HE.out.trans he)
            clear ho he
            go_wp2_with fail
            refine (Votes_calls _ _ _ (joinL l n) n HO.out).mono ?_
            rw [HQ1.out]; rintro e wq ⟨rfl, rfl⟩
            go_wp2_with fail
            refine (May_calls _ _ _ _ _ l (joinL l n) (H1.out.ext HE.out) HO.out (by have := HB.out; omega) (by have := HB.out; have := HJL.out; omega)).mono ?_
            rw [HQ2.out]; rintro e wq ⟨rfl, rfl⟩
            go_wp2_with fail
            refine (May_calls _ _ _ _ _ (joinL l n) l HO.out (H1.out.ext HE.out) (by have := HB.out; have := HJL.out; omega) (by have := HB.out; omega)).mono ?_
            rw [HQ3.out]; rintro e wq ⟨rfl, rfl⟩
            go_wp2_with fail
            refine (Leave_calls _ _ _ (joinL l n) HO.out n (by have := HB.out; have := HJL.out; omega)).mono ?_
            rintro e wq ⟨x, rfl, ho, he⟩
            have HO2 := Lib.hid ho.rs
            replace HE := Lib.hid (HE.out.trans he)
            clear ho he
            go_wp2_with fail
            refine (EqualI_calls _ _ _ _ _ _ l HO2.out (H1.out.ext HE.out)).mono ?_
            rw [HQ4.out]; rintro e wq ⟨rfl, m, hw⟩
            replace HE := Lib.hid (hw ▸ HE.out.drewN m : Ext w wq)
            clear hw HO HO2
            go_wp2_with fail
            refine (awake_calls _).mono ?_
            rintro e wz ⟨rfl, hez⟩
            have HEZ := Lib.hid (HE.out.trans hez)
            clear hez
            go_wp2
            go_ret
            exact ⟨rfl, HEZ.out⟩
          · have HV := Lib.hid hb
            obtain ⟨q1, q2, q3⟩ := back_yes hbk hb
            have HQ1 := Lib.hid q1
            have HQ2 := Lib.hid q2
            have HQ3 := Lib.hid q3
            clear q1 q2 q3 hbk hb
            have HLL := Lib.hid (leaveL_le l n)
            go_wp2_with fail
            refine (Votes_calls _ _ _ l n (H1.out.ext HE.out)).mono ?_
            rw [HV.out]; rintro e wq ⟨rfl, rfl⟩
            go_wp2_with fail
            refine (Leave_calls _ _ _ l (H1.out.ext HE.out) n (by have := HB.out; omega)).mono ?_
            rintro e wq ⟨u, rfl, ho, he⟩
            obtain ⟨A2, c2, rfl⟩ := ho.rs.isS
            have HO := Lib.hid ho.rs
            replace HE := Lib.hid (HE.out.trans he)
            clear ho he
            go_wp2_with fail
            refine (Votes_calls _ _ _ (leaveL l n) n HO.out).mono ?_
            rw [HQ1.out]; rintro e wq ⟨rfl, rfl⟩
            go_wp2_with fail
            refine (Join2_calls _ _ _ (leaveL l n) HO.out n HN.out (by have := HB.out; have := HLL.out; omega)).mono ?_
            rintro e wq ⟨x, rfl, ho, he⟩
            have HO2 := Lib.hid ho.rs
            have HO1 := Lib.hid (HO.out.ext he)
            replace HE := Lib.hid (HE.out.trans he)
            clear ho he HO
            go_wp2_with fail
            refine (EqualI_calls _ _ _ _ _ _ l HO2.out (H1.out.ext HE.out)).mono ?_
            rw [HQ2.out]; rintro e wq ⟨rfl, m, hw⟩
            replace HE := Lib.hid (hw ▸ HE.out.drewN m : Ext w wq)
            have HO := Lib.hid (show Rs kInt wq _ _ _ from hw ▸ HO1.out.drewN m)
            clear hw HO2 HO1
            by_cases hz : (leaveL l n).length = 0
            · have hzb : (((leaveL l n).length : Int) == 0) = true := beq_iff_eq.2 (by omega)
              clear hz
              go_wp2_with fail
              refine (awake_calls _).mono ?_
              rintro e wz ⟨rfl, hez⟩
              have HEZ := Lib.hid (HE.out.trans hez)
              clear hez
              go_wp2
              go_ret
              exact ⟨rfl, HEZ.out⟩
            · have hzb : (((leaveL l n).length : Int) == 0) = false := beq_eq_false_iff_ne.2 (by omega)
              have HQ4 := Lib.hid (HQ3.out hz)
              clear hz
              go_wp2_with fail
              refine (May_calls _ _ _ _ _ l (leaveL l n) (H1.out.ext HE.out) HO.out (by have := HB.out; omega) (by have := HB.out; have := HLL.out; omega)).mono ?_
              rw [HQ4.out.1]; rintro e wq ⟨rfl, rfl⟩
              go_wp2_with fail
              refine (May_calls _ _ _ _ _ (leaveL l n) l HO.out (H1.out.ext HE.out) (by have := HB.out; have := HLL.out; omega) (by have := HB.out; omega)).mono ?_
              rw [HQ4.out.2]; rintro e wq ⟨rfl, rfl⟩
              go_wp2_with fail
              refine (awake_calls _).mono ?_
              rintro e wz ⟨rfl, hez⟩
              have HEZ := Lib.hid (HE.out.trans hez)
              clear hez
              go_wp2
              go_ret
              exact ⟨rfl, HEZ.out⟩
end Go.Proofs.Ythodhajjnjfbfaa
