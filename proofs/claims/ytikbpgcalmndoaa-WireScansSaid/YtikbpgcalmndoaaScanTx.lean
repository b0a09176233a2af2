/-
  (*wire.Scan).Text, End.
-/
import Derived.Test.YtikbpgcalmndoaaScanText
set_option linter.unusedVariables false
set_option linter.unusedSimpArgs false
namespace Go.Proofs.Ytikbpgcalmndoaa
open Go.RowKit

theorem part_rs {w : World} {S : Nat → Prop} {A : Option Addr} {m c k : Nat} {bs : List UInt8} (h : Rs kByte w S (.slice A m c) bs) (hk : k ≤ bs.length) : Rs kByte w S (.slice A k c) (bs.take k) := by
  obtain ⟨A', c', he, hl, hc, hz, hr⟩ := h
  injection he with e1 e2 e3
  subst e1; subst e3
  have e : (bs.take k).length = k := by rw [List.length_take]; omega
  exact ⟨_, c, by rw [e], by rw [e]; omega, by omega, by rw [e]; omega, hr.take k⟩
theorem max_val (most : Int) : (if most < 0 then (0 : Int) else most) = (most.toNat : Int) := by split <;> omega

set_option maxRecDepth 100000 in
set_option maxHeartbeats 1000000 in
theorem ScText_calls (w : World) (B : Nat → Prop) (p q : Nat) (s : ScS) (hs : Sc w B p q s) (most : Int) :
    Calls Try.prog 27 #[.pointer (some ⟨p, 0, none⟩), .int .i64 most] w fun e w' => e = .returned (.string ⟨(s.text most).1.toArray⟩) ∧ Sc w' B p q (s.text most).2 ∧ Upd (two p q) w w' := by
  have HS := Lib.hid hs
  obtain ⟨c1, c2, c3, c4, c5, A, c, c6, c7⟩ := hs.cells
  have hok := hs.ok_.1
  have hnb := (ScS.ok_number hs.ok_)
  have hz : s.b.length ≤ 140737488355328 := by obtain ⟨_, _, _, _, _, hz, _⟩ := c7; exact hz
  clear hs c4 c5 c7
  by_cases h0 : s.e = 0
  · have hnum : s.number = ((rd (s.b.drop s.at_)).1, ⟨s.b, s.at_ + (rd (s.b.drop s.at_)).2.1, (rd (s.b.drop s.at_)).2.2⟩) := by unfold ScS.number; rw [if_pos h0]
    have htx : s.text most = if (rd (s.b.drop s.at_)).2.2 = 0 then
      if (most.toNat < (rd (s.b.drop s.at_)).1) then ([], ⟨s.b, s.at_, 4⟩)
      else if s.b.length < s.at_ + (rd (s.b.drop s.at_)).2.1 + (rd (s.b.drop s.at_)).1 then ([], ⟨s.b, s.at_, 2⟩)
      else ((s.b.drop (s.at_ + (rd (s.b.drop s.at_)).2.1)).take (rd (s.b.drop s.at_)).1, ⟨s.b, s.at_ + (rd (s.b.drop s.at_)).2.1 + (rd (s.b.drop s.at_)).1, 0⟩)
    else ([], ⟨s.b, s.at_, (rd (s.b.drop s.at_)).2.2⟩) := by unfold ScS.text; rw [if_pos h0]
    rw [htx]
    rw [hnum] at hnb
    have hbd := rd_bd (s.b.drop s.at_)
    have hzz := hbd.2.2.1
    generalize rd (s.b.drop s.at_) = r at hnum hnb hzz
    obtain ⟨n, k, e⟩ := r
    simp only [ScS.ok] at hnum hnb hzz
    have HN := Lib.hid hnum
    have HZ := Lib.hid hzz
    have H0 := Lib.hid h0
    clear hnum htx h0 hbd hzz
    by_cases he : e = 0
    · subst he
      simp only [if_true]
      by_cases h1 : most.toNat < n
      · simp only [if_pos h1]
        go_enter Try.func27, Try.ntmps27
        go_wp2_with (first | (go_at_call 46; refine (made_yes _ p q ?_).mono ?_; assumption; rintro e w' ⟨rfl, rfl⟩))
        refine (ScNumber_calls w B p q s HS.out).mono ?_
        rw [HN.out]
        rintro e w' ⟨rfl, hsc, hup⟩
        obtain ⟨d1, d2, d3, d4, d5, A', c', d6, d7⟩ := hsc.cells
        have HSC := Lib.hid hsc
        have HUP := Lib.hid hup
        clear hsc hup d7 c1 c2 c3 c6
        go_wp2_with (first | (go_at_call 30; refine (Err_calls _ B p q _ HSC.out).mono ?_; rintro e w' ⟨rfl, rfl⟩))
        all_goals
          have hst := HSC.out.setAt s.at_ hok
          refine (fail_calls _ B p q _ hst 4 (by omega)).mono ?_
          rintro e w2 ⟨rfl, hsc2, hup2⟩
          have HSC2 := Lib.hid hsc2
          have HUP2 := Lib.hid ((HUP.out.set (.inl (.inr rfl)) _).trans hup2)
          clear hsc2 hup2
          go_wp2
          go_ret
          exact ⟨rfl, HSC2.out, HUP2.out⟩
      · simp only [if_neg h1]
        have hmx : ¬ ((if most < 0 then (0 : Int) else most) < (n : Int)) := by split <;> omega
        by_cases h2 : s.b.length < s.at_ + k + n
        · simp only [if_pos h2]
          have hlf : ((s.b.length - (s.at_ + k) : Nat) : Int) < (n : Int) := by omega
          have HL := Lib.hid hlf
          clear hlf
          go_enter Try.func27, Try.ntmps27
          go_wp2_with (first | (go_at_call 46; refine (made_yes _ p q ?_).mono ?_; assumption; rintro e w' ⟨rfl, rfl⟩))
          refine (ScNumber_calls w B p q s HS.out).mono ?_
          rw [HN.out]
          rintro e w' ⟨rfl, hsc, hup⟩
          obtain ⟨d1, d2, d3, d4, d5, A', c', d6, d7⟩ := hsc.cells
          have HSC := Lib.hid hsc
          have HUP := Lib.hid hup
          clear hsc hup d7 c1 c2 c3 c6
          go_wp2_with (first | (go_at_call 30; refine (Err_calls _ B p q _ HSC.out).mono ?_; rintro e w' ⟨rfl, rfl⟩) | (go_at_call 29; refine (Left_calls _ B p q _ HSC.out).mono ?_; rintro e w' ⟨rfl, m, rfl⟩; have hlf := HL.out))
          all_goals
            have hst := (HSC.out.drewN m).setAt s.at_ hok
            refine (fail_calls _ B p q _ hst 2 (by omega)).mono ?_
            rintro e w2 ⟨rfl, hsc2, hup2⟩
            have HSC2 := Lib.hid hsc2
            have HUP2 := Lib.hid (((HUP.out.drewN m).set (.inl (.inr rfl)) _).trans hup2)
            clear hsc2 hup2
            go_wp2
            go_ret
            exact ⟨rfl, HSC2.out, HUP2.out⟩
        · simp only [if_neg h2]
          have hlf : ¬ ((s.b.length - (s.at_ + k) : Nat) : Int) < (n : Int) := by omega
          have HL := Lib.hid hlf
          clear hlf
          go_enter Try.func27, Try.ntmps27
          go_wp2_with (first | (go_at_call 46; refine (made_yes _ p q ?_).mono ?_; assumption; rintro e w' ⟨rfl, rfl⟩))
          refine (ScNumber_calls w B p q s HS.out).mono ?_
          rw [HN.out]
          rintro e w' ⟨rfl, hsc, hup⟩
          obtain ⟨d1, d2, d3, d4, d5, A', c', d6, d7⟩ := hsc.cells
          have HSC := Lib.hid hsc
          have HUP := Lib.hid hup
          clear hsc hup d7 c1 c2 c3 c6
          go_wp2_with (first | (go_at_call 30; refine (Err_calls _ B p q _ HSC.out).mono ?_; rintro e w' ⟨rfl, rfl⟩) | (go_at_call 29; refine (Left_calls _ B p q _ HSC.out).mono ?_; rintro e w' ⟨rfl, m, rfl⟩; have hlf := HL.out))
          all_goals
            have hst := (HSC.out.drewN m).setAt (s.at_ + k + n) (by show _ ≤ s.b.length; omega)
            simp only at hst
            obtain ⟨x1, x2, x3, x4, x5, A2, c2, x6, x7⟩ := hst.cells
            simp only at x1 x2 x3 x4 x5 x6 x7
            have HUP2 := Lib.hid ((HUP.out.drewN m).set (i := 1) (.inl (.inr rfl)) (.int .i64 ((s.at_ + k + n : Nat) : Int)))
            have HST := Lib.hid hst
            have X7 := Lib.hid x7
            rw [Int.natCast_add, Int.natCast_add] at hst HUP2 x1 x3 x6 x7 HST X7
            generalize (w'.drewN m).setCell ⟨q, 1, none⟩ (.int .i64 ((s.at_ : Int) + (k : Int) + (n : Int))) = W at *
            have hcc : s.b.length ≤ c2 := by obtain ⟨_, _, e1, _, hc, _, _⟩ := x7; injection e1 with _ _ e3; omega
            have g1 : (0 : Int) ≤ (s.at_ : Int) + (k : Int) := by omega
            have g2 : (s.at_ : Int) + (k : Int) ≤ (s.at_ : Int) + (k : Int) + (n : Int) := by omega
            have g3 : (s.at_ : Int) + (k : Int) + (n : Int) ≤ (c2 : Int) := by omega
            have g4 : (0 : Int) ≤ (s.at_ : Int) + (k : Int) + (n : Int) := by omega
            clear hst d1 d2 d3 d4 d5 d6 x2 x4 x5 x7
            have hcv : ∀ a : Nat, (convert 22 9 (.slice (if c2 = s.at_ + k then A2 else Option.map (fun x => x.add (s.at_ + k)) A2) n (c2 - (s.at_ + k)))).run Try.prog (W.drewN a) = .ok (.string ⟨((s.b.drop (s.at_ + k)).take n).toArray⟩) (W.drewN a) := fun a => by
              have r1 := (rest_rs X7.out (k := s.at_ + k) (by omega))
              have r2 := part_rs r1 (k := n) (by rw [List.length_drop]; omega)
              exact (r2.drewN a).to_string Try.underlying22 tByte tString
            go_quiet (fail)
            go_wp2
            all_goals
              go_ret
              exact ⟨rfl, HST.out.drewN _, HUP2.out.drewN _⟩
    · have hn0 := (HZ.out he).1
      have hk0 := (HZ.out he).2
      subst hn0
      subst hk0
      rw [if_neg he]
      have he2 : ((e : Int) != 0) = true := by rw [bne_iff_ne]; omega
      go_enter Try.func27, Try.ntmps27
      go_wp2_with (first | (go_at_call 46; refine (made_yes _ p q ?_).mono ?_; assumption; rintro e w' ⟨rfl, rfl⟩))
      refine (ScNumber_calls w B p q s HS.out).mono ?_
      rw [HN.out]
      rintro e w' ⟨rfl, hsc, hup⟩
      have HSC := Lib.hid hsc
      have HUP := Lib.hid hup
      clear hsc hup c1 c2 c3 c6
      go_wp2_with (first | (go_at_call 30; refine (Err_calls _ B p q _ HSC.out).mono ?_; rintro e w' ⟨rfl, rfl⟩))
      go_ret
      exact ⟨rfl, HSC.out, HUP.out⟩
  · have hnum : s.number = (0, s) := by unfold ScS.number; rw [if_neg h0]
    have htx : s.text most = ([], s) := by unfold ScS.text; rw [if_neg h0]
    rw [htx]
    have HN := Lib.hid hnum
    have he2 : ((s.e : Int) != 0) = true := by rw [bne_iff_ne]; omega
    clear hnum htx hnb
    go_enter Try.func27, Try.ntmps27
    go_wp2_with (first | (go_at_call 46; refine (made_yes _ p q ?_).mono ?_; assumption; rintro e w' ⟨rfl, rfl⟩))
    refine (ScNumber_calls w B p q s HS.out).mono ?_
    rw [HN.out]
    rintro e w' ⟨rfl, hsc, hup⟩
    have HSC := Lib.hid hsc
    have HUP := Lib.hid hup
    clear hsc hup c1 c2 c3 c6
    go_wp2_with (first | (go_at_call 30; refine (Err_calls _ B p q _ HSC.out).mono ?_; rintro e w' ⟨rfl, rfl⟩))
    go_ret
    exact ⟨rfl, HSC.out, HUP.out⟩

set_option maxRecDepth 100000 in
set_option maxHeartbeats 1000000 in
theorem ScEnd_calls (w : World) (B : Nat → Prop) (p q : Nat) (s : ScS) (hs : Sc w B p q s) :
    Calls Try.prog 31 #[.pointer (some ⟨p, 0, none⟩)] w fun e w' => e = .returned (.int .i64 (s.end_.e : Int)) ∧ Sc w' B p q s.end_ ∧ Upd (two p q) w w' := by
  have HS := Lib.hid hs
  have hok := hs.ok_.1
  clear hs
  by_cases h0 : s.e = 0
  · by_cases h1 : s.at_ < s.b.length
    · have hx : s.end_ = ⟨s.b, s.at_, 3⟩ := by unfold ScS.end_; rw [if_pos ⟨h0, h1⟩]
      rw [hx]
      clear hx
      go_enter Try.func31, Try.ntmps31
      go_wp2_with (first | (go_at_call 30; refine (Err_calls _ B p q _ HS.out).mono ?_; rintro e w' ⟨rfl, rfl⟩; rw [h0]) | (go_at_call 29; refine (Left_calls _ B p q _ HS.out).mono ?_; rintro e w' ⟨rfl, m, rfl⟩; have hlt : (0 : Int) < ((s.b.length - s.at_ : Nat) : Int) := by omega))
      refine (fail_calls _ B p q _ (HS.out.drewN m) 3 (by omega)).mono ?_
      rw [if_pos h0]
      rintro e w2 ⟨rfl, hsc2, hup2⟩
      have HSC2 := Lib.hid hsc2
      have HUP2 := Lib.hid (((Upd.refl _ _).drewN m).trans hup2)
      clear hsc2 hup2
      go_wp2_with (first | (go_at_call 30; refine (Err_calls _ B p q _ HSC2.out).mono ?_; rintro e w' ⟨rfl, rfl⟩))
      go_ret
      exact ⟨rfl, HSC2.out, HUP2.out⟩
    · have hx : s.end_ = s := by unfold ScS.end_; rw [if_neg fun h => h1 h.2]
      rw [hx]
      have hnlt : ¬ (0 : Int) < ((s.b.length - s.at_ : Nat) : Int) := by omega
      have HL := Lib.hid hnlt
      clear hx hnlt
      go_enter Try.func31, Try.ntmps31
      go_wp2_with (first | (go_at_call 30; refine (Err_calls _ B p q _ (by first | exact HS.out | exact HS.out.drewN _)).mono ?_; rintro e w' ⟨rfl, rfl⟩; rw [h0]) | (go_at_call 29; refine (Left_calls _ B p q _ HS.out).mono ?_; rintro e w' ⟨rfl, m, rfl⟩; have hlt := HL.out))
      go_ret
      exact ⟨by rw [h0]; rfl, HS.out.drewN m, (Upd.refl _ _).drewN m⟩
  · have hx : s.end_ = s := by unfold ScS.end_; rw [if_neg fun h => h0 h.1]
    rw [hx]
    have he2 : ((s.e : Int) == 0) = false := beq_eq_false_iff_ne.2 (by omega)
    clear hx
    go_enter Try.func31, Try.ntmps31
    go_wp2_with (first | (go_at_call 30; refine (Err_calls _ B p q _ HS.out).mono ?_; rintro e w' ⟨rfl, rfl⟩))
    go_ret
    exact ⟨rfl, HS.out, Upd.refl _ _⟩
end Go.Proofs.Ytikbpgcalmndoaa
