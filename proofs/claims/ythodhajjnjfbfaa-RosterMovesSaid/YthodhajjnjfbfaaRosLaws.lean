/-
  The walks of RosterMajorities, RosterChanges, RosterChecks, RosterAgreed.
-/
import Derived.Test.YthodhajjnjfbfaaRosAwake
set_option linter.unusedVariables false
set_option linter.unusedSimpArgs false
namespace Go.Proofs.Ythodhajjnjfbfaa
open Go.RowKit

theorem Rs.isS {α : Type} {d : Kd α} {w : World} {S : Nat → Prop} {v : Value} {xs : List α} (h : Rs d w S v xs) : ∃ A c, v = .slice A xs.length c := let ⟨A, c, e, _⟩ := h; ⟨A, c, e⟩
theorem light2 {a b : List Int} (h : lightB [a, b] = true) : a.length ≤ 300 ∧ b.length ≤ 300 := ⟨lightB_mem h (by simp), lightB_mem h (by simp)⟩

set_option maxHeartbeats 400000 in
theorem RosterMajorities_walk (w : World) (S1 : Nat → Prop) (v1 : Value) (voters : List Int) (h1 : Rs kInt w S1 v1 voters) (S2 : Nat → Prop) (v2 : Value) (some : List Int) (h2 : Rs kInt w S2 v2 some) :
    Calls Try.prog 3 #[v1, v2] w fun e w' => e = .returned (.bool true) ∧ Ext w w' := by
  obtain ⟨A1, c1, rfl⟩ := h1.isS
  obtain ⟨A2, c2, rfl⟩ := h2.isS
  have H1 := Lib.hid h1.under
  have H2 := Lib.hid h2.under
  clear h1 h2
  go_enter Try.func3, Try.ntmps3
  go_wp2_with fail
  refine (light_calls _ _ _ [voters, some] (Rs.two (heap_new w _ rfl _) trivial ((H1.out.alloc _).mono fun _ _ => trivial) ((H2.out.alloc _).mono fun _ _ => trivial))).mono ?_
  rintro e w' ⟨rfl, hw⟩
  have HE := Lib.hid (hw ▸ (Ext.refl w).alloc _ : Ext w w')
  clear hw
  cases hL : lightB [voters, some]
  · have HL := Lib.hid hL
    clear hL
    go_wp2_with fail
    refine (awake_calls _).mono ?_
    rintro e w2 ⟨rfl, he2⟩
    have HE2 := Lib.hid (HE.out.trans he2)
    clear he2
    go_wp2
    go_ret
    exact ⟨rfl, HE2.out⟩
  · clear hL
    go_wp2_with fail
    refine (Majority_calls _ _ _ _ _ voters some (H1.out.ext HE.out) (H2.out.ext HE.out)).mono ?_
    rintro e w2 ⟨rfl, rfl⟩
    go_wp2_with fail
    refine (RefMajority_calls _ _ _ _ _ voters some (H1.out.ext HE.out) (H2.out.ext HE.out)).mono ?_
    rintro e w2 ⟨rfl, rfl⟩
    go_wp2_with fail
    refine (awake_calls _).mono ?_
    rintro e w2 ⟨rfl, he2⟩
    have HE2 := Lib.hid (HE.out.trans he2)
    clear he2
    go_wp2
    go_ret
    exact ⟨rfl, HE2.out⟩

set_option maxHeartbeats 400000 in
theorem RosterChanges_walk (w : World) (S1 : Nat → Prop) (v1 : Value) (old : List Int) (h1 : Rs kInt w S1 v1 old) (S2 : Nat → Prop) (v2 : Value) (next : List Int) (h2 : Rs kInt w S2 v2 next) :
    Calls Try.prog 4 #[v1, v2] w fun e w' => e = .returned (.bool true) ∧ Ext w w' := by
  obtain ⟨A1, c1, rfl⟩ := h1.isS
  obtain ⟨A2, c2, rfl⟩ := h2.isS
  have H1 := Lib.hid h1.under
  have H2 := Lib.hid h2.under
  clear h1 h2
  go_enter Try.func4, Try.ntmps4
  go_wp2_with fail
  refine (light_calls _ _ _ [old, next] (Rs.two (heap_new w _ rfl _) trivial ((H1.out.alloc _).mono fun _ _ => trivial) ((H2.out.alloc _).mono fun _ _ => trivial))).mono ?_
  rintro e w' ⟨rfl, hw⟩
  have HE := Lib.hid (hw ▸ (Ext.refl w).alloc _ : Ext w w')
  clear hw
  cases hL : lightB [old, next]
  · have HL := Lib.hid hL
    clear hL
    go_wp2_with fail
    refine (awake_calls _).mono ?_
    rintro e w2 ⟨rfl, he2⟩
    have HE2 := Lib.hid (HE.out.trans he2)
    clear he2
    go_wp2
    go_ret
    exact ⟨rfl, HE2.out⟩
  · have HB := Lib.hid (light2 hL)
    clear hL
    go_wp2_with fail
    refine (May_calls _ _ _ _ _ old next (H1.out.ext HE.out) (H2.out.ext HE.out) (by have := HB.out.1; omega) (by have := HB.out.2; omega)).mono ?_
    rintro e w2 ⟨rfl, rfl⟩
    go_wp2_with fail
    refine (RefMay_calls _ _ _ _ _ old next (H1.out.ext HE.out) (H2.out.ext HE.out)).mono ?_
    rintro e w2 ⟨rfl, rfl⟩
    go_wp2_with fail
    refine (awake_calls _).mono ?_
    rintro e w2 ⟨rfl, he2⟩
    have HE2 := Lib.hid (HE.out.trans he2)
    clear he2
    go_wp2
    go_ret
    exact ⟨rfl, HE2.out⟩

set_option maxHeartbeats 400000 in
theorem RosterChecks_walk (w : World) (S1 : Nat → Prop) (v1 : Value) (l : List Int) (h1 : Rs kInt w S1 v1 l) (n : Int) (hn : I64 n) :
    Calls Try.prog 7 #[v1, .int .i64 n] w fun e w' => e = .returned (.bool true) ∧ Ext w w' := by
  obtain ⟨A1, c1, rfl⟩ := h1.isS
  have H1 := Lib.hid h1.under
  clear h1 hn
  go_enter Try.func7, Try.ntmps7
  go_wp2_with fail
  refine (light_calls _ _ _ [l] (Rs.one_ (heap_new w _ rfl _) trivial ((H1.out.alloc _).mono fun _ _ => trivial))).mono ?_
  rintro e w' ⟨rfl, hw⟩
  have HE := Lib.hid (hw ▸ (Ext.refl w).alloc _ : Ext w w')
  clear hw
  cases hL : lightB [l]
  · have HL := Lib.hid hL
    clear hL
    go_wp2_with fail
    refine (awake_calls _).mono ?_
    rintro e w2 ⟨rfl, he2⟩
    have HE2 := Lib.hid (HE.out.trans he2)
    clear he2
    go_wp2
    go_ret
    exact ⟨rfl, HE2.out⟩
  · have HB := Lib.hid (lightB_mem hL (List.mem_singleton.2 rfl))
    clear hL
    go_wp2_with fail
    refine (CloneI_calls _ _ _ l (H1.out.ext HE.out) (by have := HB.out; omega)).mono ?_
    rintro e w2 ⟨u, rfl, ho, he⟩
    have HG := Lib.hid ho.rs
    have HE2 := Lib.hid (HE.out.trans he)
    clear ho he
    go_wp2_with fail
    refine (Check_calls _ _ _ l HG.out).mono ?_
    rintro e w3 ⟨rfl, rfl⟩
    go_wp2_with fail
    refine (RefCheck_calls _ _ _ l (H1.out.ext HE2.out)).mono ?_
    rintro e w3 ⟨rfl, rfl⟩
    go_wp2_with fail
    refine (Votes_calls _ _ _ l n HG.out).mono ?_
    rintro e w3 ⟨rfl, rfl⟩
    go_wp2_with fail
    refine (RefVotes_calls _ _ _ l n (H1.out.ext HE2.out)).mono ?_
    rintro e w3 ⟨rfl, rfl⟩
    go_wp2_with fail
    refine (EqualI_calls _ _ _ _ _ l l HG.out (H1.out.ext HE2.out)).mono ?_
    rw [eqL_self]
    rintro e w3 ⟨rfl, m, rfl⟩
    go_wp2_with fail
    refine (awake_calls _).mono ?_
    rintro e w4 ⟨rfl, he4⟩
    have HE4 := Lib.hid ((HE2.out.drewN m).trans he4)
    clear he4
    go_wp2
    go_ret
    exact ⟨rfl, HE4.out⟩

set_option maxHeartbeats 400000 in
theorem RosterAgreed_walk (w : World) (S1 : Nat → Prop) (v1 : Value) (voters : List Int) (h1 : Rs kInt w S1 v1 voters) (S2 : Nat → Prop) (v2 : Value) (reached : List Int) (h2 : Rs kInt w S2 v2 reached) :
    Calls Try.prog 6 #[v1, v2] w fun e w' => e = .returned (.bool true) ∧ Ext w w' := by
  obtain ⟨A1, c1, rfl⟩ := h1.isS
  obtain ⟨A2, c2, rfl⟩ := h2.isS
  have H1 := Lib.hid h1.under
  have H2 := Lib.hid h2.under
  clear h1 h2
  go_enter Try.func6, Try.ntmps6
  go_wp2_with fail
  refine (light_calls _ _ _ [voters, reached] (Rs.two (heap_new w _ rfl _) trivial ((H1.out.alloc _).mono fun _ _ => trivial) ((H2.out.alloc _).mono fun _ _ => trivial))).mono ?_
  rintro e w' ⟨rfl, hw⟩
  have HE := Lib.hid (hw ▸ (Ext.refl w).alloc _ : Ext w w')
  clear hw
  cases hL : lightB [voters, reached]
  · have HL := Lib.hid hL
    clear hL
    go_wp2_with fail
    refine (awake_calls _).mono ?_
    rintro e w2 ⟨rfl, he2⟩
    have HE2 := Lib.hid (HE.out.trans he2)
    clear he2
    go_wp2
    go_ret
    exact ⟨rfl, HE2.out⟩
  · have HB := Lib.hid (light2 hL)
    clear hL
    go_wp2_with fail
    refine (CloneI_calls _ _ _ reached (H2.out.ext HE.out) (by have := HB.out.2; omega)).mono ?_
    rintro e w2 ⟨u, rfl, ho, he⟩
    have HG := Lib.hid ho.rs
    have HE2 := Lib.hid (HE.out.trans he)
    clear ho he
    go_wp2_with fail
    refine (Agreed_calls _ _ _ _ _ voters reached (H1.out.ext HE2.out) HG.out).mono ?_
    rintro e w3 ⟨rfl, he⟩
    have HG3 := Lib.hid (HG.out.ext he)
    have HE3 := Lib.hid (HE2.out.trans he)
    clear he
    go_wp2_with fail
    refine (RefAgreed_calls _ _ _ _ _ voters reached (H1.out.ext HE3.out) (H2.out.ext HE3.out)).mono ?_
    rintro e w4 ⟨rfl, he⟩
    have HG4 := Lib.hid (HG3.out.ext he)
    have HE4 := Lib.hid (HE3.out.trans he)
    clear he
    go_wp2_with fail
    refine (EqualI_calls _ _ _ _ _ reached reached HG4.out (H2.out.ext HE4.out)).mono ?_
    rw [eqL_self]
    rintro e w5 ⟨rfl, m, rfl⟩
    go_wp2_with fail
    refine (awake_calls _).mono ?_
    rintro e w6 ⟨rfl, he4⟩
    have HE6 := Lib.hid ((HE4.out.drewN m).trans he4)
    clear he4
    go_wp2
    go_ret
    exact ⟨rfl, HE6.out⟩
end Go.Proofs.Ythodhajjnjfbfaa
