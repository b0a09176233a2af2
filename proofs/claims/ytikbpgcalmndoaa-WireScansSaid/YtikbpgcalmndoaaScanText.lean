/-
  (*wire.Scan).Text, Flag, End.
-/
import Derived.Test.YtikbpgcalmndoaaScanNum
import Derived.Test.YtikbpgcalmndoaaTexts
set_option linter.unusedVariables false
set_option linter.unusedSimpArgs false
namespace Go.Proofs.Ytikbpgcalmndoaa
open Go.RowKit

theorem Sc.ext0 {w : World} {B : Nat → Prop} {p q : Nat} {s s' : ScS} (h : Sc w B p q s) (e : s = s') : Sc w B p q s' := e ▸ h

set_option maxRecDepth 100000 in
set_option maxHeartbeats 1000000 in
theorem ScFlag_calls (w : World) (B : Nat → Prop) (p q : Nat) (s : ScS) (hs : Sc w B p q s) :
    Calls Try.prog 28 #[.pointer (some ⟨p, 0, none⟩)] w fun e w' => e = .returned (.bool s.flag.1) ∧ Sc w' B p q s.flag.2 ∧ Upd (two p q) w w' := by
  have HS := Lib.hid hs
  obtain ⟨c1, c2, c3, c4, c5, A, c, c6, c7⟩ := hs.cells
  have hok := hs.ok_.1
  have hnb := (ScS.ok_number hs.ok_).2
  clear hs c4 c5 c7
  by_cases h0 : s.e = 0
  · have hnum : s.number = ((rd (s.b.drop s.at_)).1, ⟨s.b, s.at_ + (rd (s.b.drop s.at_)).2.1, (rd (s.b.drop s.at_)).2.2⟩) := by unfold ScS.number; rw [if_pos h0]
    have hfl : s.flag = if (rd (s.b.drop s.at_)).2.2 = 0 then (if 1 < (rd (s.b.drop s.at_)).1 then (false, ⟨s.b, s.at_, 10⟩) else (decide ((rd (s.b.drop s.at_)).1 = 1), ⟨s.b, s.at_ + (rd (s.b.drop s.at_)).2.1, 0⟩)) else (false, ⟨s.b, s.at_, (rd (s.b.drop s.at_)).2.2⟩) := by unfold ScS.flag; rw [if_pos h0]
    rw [hfl]
    rw [hnum] at hnb
    have hbd := rd_bd (s.b.drop s.at_)
    have hz := hbd.2.2.1
    generalize rd (s.b.drop s.at_) = r at hnum hnb hz
    obtain ⟨n, k, e⟩ := r
    simp only at hnum hnb hz
    have HN := Lib.hid hnum
    have HZ := Lib.hid hz
    have H0 := Lib.hid h0
    clear hnum hfl h0 hbd hz
    by_cases he : e = 0
    · subst he
      simp only [if_true]
      by_cases h1 : 1 < n
      · simp only [if_pos h1]
        go_enter Try.func28, Try.ntmps28
        go_wp2_with (first | (go_at_call 46; refine (made_yes _ p q ?_).mono ?_; assumption; rintro e w' ⟨rfl, rfl⟩))
        refine (ScNumber_calls w B p q s HS.out).mono ?_
        rw [HN.out]
        rintro e w' ⟨rfl, hsc, hup⟩
        obtain ⟨d1, d2, d3, d4, d5, A', c', d6, d7⟩ := hsc.cells
        have HSC := Lib.hid hsc
        have HUP := Lib.hid hup
        clear hsc hup d7 c1 c2 c3 c6
        go_wp2_with fail
        have hst := HSC.out.setAt s.at_ hok
        refine (fail_calls _ B p q _ hst 10 (by omega)).mono ?_
        rintro e w2 ⟨rfl, hsc2, hup2⟩
        have HSC2 := Lib.hid hsc2
        have HUP2 := Lib.hid ((HUP.out.set (.inl (.inr rfl)) _).trans hup2)
        clear hsc2 hup2
        go_wp2
        go_ret
        exact ⟨rfl, HSC2.out, HUP2.out⟩
      · simp only [if_neg h1]
        go_enter Try.func28, Try.ntmps28
        go_wp2_with (first | (go_at_call 46; refine (made_yes _ p q ?_).mono ?_; assumption; rintro e w' ⟨rfl, rfl⟩))
        refine (ScNumber_calls w B p q s HS.out).mono ?_
        rw [HN.out]
        rintro e w' ⟨rfl, hsc, hup⟩
        have HSC := Lib.hid hsc
        have HUP := Lib.hid hup
        have hb1 : ((n : Int) == 1) = decide (n = 1) := by
          by_cases h : n = 1
          · subst h; rfl
          · rw [decide_eq_false h]; exact beq_eq_false_iff_ne.2 (by omega)
        have HB1 := Lib.hid hb1
        clear hsc hup hb1 c1 c2 c3 c6
        go_wp2
        go_ret
        exact ⟨by rw [← HB1.out]; rfl, HSC.out, HUP.out⟩
    · have hn0 := (HZ.out he).1
      have hk0 := (HZ.out he).2
      subst hn0
      subst hk0
      rw [if_neg he]
      go_enter Try.func28, Try.ntmps28
      go_wp2_with (first | (go_at_call 46; refine (made_yes _ p q ?_).mono ?_; assumption; rintro e w' ⟨rfl, rfl⟩))
      refine (ScNumber_calls w B p q s HS.out).mono ?_
      rw [HN.out]
      rintro e w' ⟨rfl, hsc, hup⟩
      have HSC := Lib.hid hsc
      have HUP := Lib.hid hup
      clear hsc hup c1 c2 c3 c6
      go_wp2
      go_ret
      exact ⟨rfl, HSC.out, HUP.out⟩
  · have hnum : s.number = (0, s) := by unfold ScS.number; rw [if_neg h0]
    have hfl : s.flag = (false, s) := by unfold ScS.flag; rw [if_neg h0]
    rw [hfl]
    have HN := Lib.hid hnum
    clear hnum hfl hnb
    go_enter Try.func28, Try.ntmps28
    go_wp2_with (first | (go_at_call 46; refine (made_yes _ p q ?_).mono ?_; assumption; rintro e w' ⟨rfl, rfl⟩))
    refine (ScNumber_calls w B p q s HS.out).mono ?_
    rw [HN.out]
    rintro e w' ⟨rfl, hsc, hup⟩
    have HSC := Lib.hid hsc
    have HUP := Lib.hid hup
    clear hsc hup c1 c2 c3 c6
    go_wp2
    go_ret
    exact ⟨rfl, HSC.out, HUP.out⟩
end Go.Proofs.Ytikbpgcalmndoaa
