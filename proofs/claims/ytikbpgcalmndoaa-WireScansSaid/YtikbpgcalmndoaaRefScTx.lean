/-
  (*spandrelref01.Scan).Text.
-/
import Derived.Test.YtikbpgcalmndoaaRefScan
import Derived.IntWalk
set_option linter.unusedVariables false
set_option linter.unusedSimpArgs false
namespace Go.Proofs.Ytikbpgcalmndoaa
open Go.RowKit

set_option maxRecDepth 100000 in
set_option maxHeartbeats 8000000 in
theorem RcText_calls (w : World) (r : Nat) (S : Nat → Prop) (s : ScS) (hs : Rc w r S s) (most : Int) :
    Calls Try.prog 38 #[.pointer (some ⟨r, 0, none⟩), .int .i64 most] w fun e w' => e = .returned (.string ⟨(s.text most).1.toArray⟩) ∧ Rc w' r S (s.text most).2 ∧ Upd (one r) w w' := by
  have HS := Lib.hid hs
  obtain ⟨c1, c2, c3, c4, A, c, c5, c6⟩ := hs.cells
  have hok := hs.ok_.1
  have hnb := ScS.ok_number hs.ok_
  clear hs
  by_cases h0 : s.e = 0
  · have hnum : s.number = ((rd (s.b.drop s.at_)).1, ⟨s.b, s.at_ + (rd (s.b.drop s.at_)).2.1, (rd (s.b.drop s.at_)).2.2⟩) := by unfold ScS.number; rw [if_pos h0]
    have htx : s.text most = if (rd (s.b.drop s.at_)).2.2 = 0 then
      if (most.toNat < (rd (s.b.drop s.at_)).1) then ([], ⟨s.b, s.at_, 4⟩)
      else if s.b.length < s.at_ + (rd (s.b.drop s.at_)).2.1 + (rd (s.b.drop s.at_)).1 then ([], ⟨s.b, s.at_, 2⟩)
      else ((s.b.drop (s.at_ + (rd (s.b.drop s.at_)).2.1)).take (rd (s.b.drop s.at_)).1, ⟨s.b, s.at_ + (rd (s.b.drop s.at_)).2.1 + (rd (s.b.drop s.at_)).1, 0⟩)
    else ([], ⟨s.b, s.at_, (rd (s.b.drop s.at_)).2.2⟩) := by unfold ScS.text; rw [if_pos h0]
    rw [hnum] at hnb
    have hrest := c6.from_ (l := s.at_) rfl hok
    have hs1 := slice_from tBytes A s.b.length c .i64 (s.at_ : Int) s.at_ rfl hok
    have hz : s.b.length ≤ 140737488355328 := c6.shape.2.2.2.1
    simp only [partV_eq] at hrest hs1
    have HREST := Lib.hid hrest
    have H0 := Lib.hid h0
    rw [h0] at c2
    have C6 := Lib.hid c6
    clear hrest hnum c6 h0
    generalize hr : rd (s.b.drop s.at_) = R at hnb htx
    obtain ⟨n, k, e⟩ := R
    have HR := Lib.hid hr
    simp only [ScS.ok] at hnb htx
    have HTX := Lib.hid htx
    clear hr htx
    have HRD := Lib.hid (fun (j : Nat) => show Calls Try.prog 50 #[.slice (restA A c s.at_) (s.b.length - s.at_) (c - s.at_)] (w.drewN j) (fun e' w' => e' = .returned (.tuple #[.int .i64 (n : Int), .int .i64 (k : Int), .int .i64 (e : Int)]) ∧ w' = w.drewN j) from
      (Read_calls _ S _ _ (HREST.out.drewN _)).mono fun _ _ ⟨h1, h2⟩ => ⟨by rw [HR.out] at h1; exact h1, h2.symm⟩)
    by_cases he : e = 0
    · subst he
      by_cases h1 : most.toNat < n
      · have HF := Lib.hid (show s.text most = ([], ⟨s.b, s.at_, 4⟩) by rw [HTX.out, if_pos rfl, if_pos h1])
        have h1' : most < (n : Int) := by omega
        have h2' : (0 : Int) < (n : Int) := by omega
        clear HTX
        go_enter Try.func38, Try.ntmps38
        go_wp2
        go_quiet ((go_at_call 50; exact Calls.quiet_of_same (HRD.out _)))
        go_wp2
        go_ret
        rw [HF.out]
        exact ⟨rfl, (HS.out.drewN nq).setE 4 (by omega), ((Upd.refl _ _).drewN nq).set (.inl one_self) _⟩
      by_cases h2 : s.b.length < s.at_ + k + n
      · have HF := Lib.hid (show s.text most = ([], ⟨s.b, s.at_, 2⟩) by rw [HTX.out, if_pos rfl, if_neg h1, if_pos h2])
        have h3 : (s.b.length : Int) - (s.at_ : Int) - (k : Int) < (n : Int) := by omega
        have h1' : decide (most < (n : Int)) = false := decide_eq_false (by omega)
        have hwr1 : IntKind.i64.wrap ((s.b.length : Int) - (s.at_ : Int)) = (s.b.length : Int) - (s.at_ : Int) := IntWalk.i64_in _ (by omega)
        have hwr2 : IntKind.i64.wrap ((s.b.length : Int) - (s.at_ : Int) - (k : Int)) = (s.b.length : Int) - (s.at_ : Int) - (k : Int) := IntWalk.i64_in _ (by omega)
        clear HTX
        go_enter Try.func38, Try.ntmps38
        go_wp2
        go_quiet ((go_at_call 50; exact Calls.quiet_of_same (HRD.out _)))
        generalize nq = m1
        go_wp2
        go_quiet (fail)
        go_wp2
        go_ret
        rw [HF.out]
        exact ⟨rfl, (HS.out.drewN _).setE 2 (by omega), ((Upd.refl _ _).drewN _).set (.inl one_self) _⟩
      · have HF := Lib.hid (show s.text most = ((s.b.drop (s.at_ + k)).take n, ⟨s.b, s.at_ + k + n, 0⟩) by rw [HTX.out, if_pos rfl, if_neg h1, if_neg h2])
        have h3 : decide ((s.b.length : Int) - (s.at_ : Int) - (k : Int) < (n : Int)) = false := decide_eq_false (by omega)
        have hwr1 : IntKind.i64.wrap ((s.b.length : Int) - (s.at_ : Int)) = (s.b.length : Int) - (s.at_ : Int) := IntWalk.i64_in _ (by omega)
        have hwr2 : IntKind.i64.wrap ((s.b.length : Int) - (s.at_ : Int) - (k : Int)) = (s.b.length : Int) - (s.at_ : Int) - (k : Int) := IntWalk.i64_in _ (by omega)
        clear HTX
        by_cases hmn : most < (n : Int)
        · have h2' : decide ((0 : Int) < (n : Int)) = false := decide_eq_false (by omega)
          go_enter Try.func38, Try.ntmps38
          go_wp2
          go_quiet ((go_at_call 50; exact Calls.quiet_of_same (HRD.out _)))
          generalize nq = m1
          go_wp2
          go_quiet (fail)
          generalize nq = m2
          go_wp2
          clear hwr1 hwr2 hs1 c1 c2 c3 c4 c5
          rw [show (s.at_ : Int) + ((k : Int) + (n : Int)) = ((s.at_ + k + n : Nat) : Int) by omega]
          have hst := (HS.out.drewN (m1 + m2)).setAt (s.at_ + k + n) (by omega)
          have HUP := Lib.hid ((((Upd.refl (one r) w).drewN (m1 + m2))).set (i := 1) (.inl one_self) (.int .i64 ((s.at_ + k + n : Nat) : Int)))
          generalize (w.drewN (m1 + m2)).setCell ⟨r, 1, none⟩ (.int .i64 ((s.at_ + k + n : Nat) : Int)) = W at hst HUP ⊢
          have HST := Lib.hid hst
          obtain ⟨x1, x2, _, _, A2, cc, x5, x6⟩ := hst.cells
          have hcv : ∀ a : Nat, (convert 22 9 (.slice (restA A2 cc (s.at_ + k)) n (cc - (s.at_ + k)))).run Try.prog (W.drewN a) = .ok (.string ⟨((s.b.drop (s.at_ + k)).take n).toArray⟩) (W.drewN a) := fun a => by
            have r2 := x6.part (l := s.at_ + k) (h := s.at_ + k + n) rfl (by omega) (by show _ ≤ s.b.length; omega)
            simp only [partV_eq, Nat.add_sub_cancel_left] at r2
            exact (r2.drewN a).to_string Try.underlying22 tByte tString
          have hsl := slice_of tBytes A2 s.b.length cc .i64 .i64 ((s.at_ + k : Nat) : Int) ((s.at_ + k + n : Nat) : Int) (s.at_ + k) (s.at_ + k + n) rfl rfl (by omega) (by have := x6.shape.2.1; simp only at this; omega)
          simp only [partV_eq, Nat.add_sub_cancel_left] at hsl
          have hw3 : IntKind.i64.wrap (((s.at_ + k + n : Nat) : Int) - (n : Int)) = ((s.at_ + k : Nat) : Int) := by rw [IntWalk.i64_in _ (by omega)]; omega
          simp only at x1 x2 x5
          clear x6 hst x2
          generalize hQ : s.at_ + k + n = Q at *
          generalize hL : s.at_ + k = L at *
          go_quiet (fail)
          go_wp2
          go_ret
          rw [HF.out]
          have h9 := HST.out.drewN nq
          rw [H0.out] at h9
          exact ⟨rfl, h9, HUP.out.drewN _⟩
        · have h1' : decide (most < (n : Int)) = false := decide_eq_false hmn
          go_enter Try.func38, Try.ntmps38
          go_wp2
          go_quiet ((go_at_call 50; exact Calls.quiet_of_same (HRD.out _)))
          generalize nq = m1
          go_wp2
          go_quiet (fail)
          generalize nq = m2
          go_wp2
          clear hwr1 hwr2 hs1 c1 c2 c3 c4 c5
          rw [show (s.at_ : Int) + ((k : Int) + (n : Int)) = ((s.at_ + k + n : Nat) : Int) by omega]
          have hst := (HS.out.drewN (m1 + m2)).setAt (s.at_ + k + n) (by omega)
          have HUP := Lib.hid ((((Upd.refl (one r) w).drewN (m1 + m2))).set (i := 1) (.inl one_self) (.int .i64 ((s.at_ + k + n : Nat) : Int)))
          generalize (w.drewN (m1 + m2)).setCell ⟨r, 1, none⟩ (.int .i64 ((s.at_ + k + n : Nat) : Int)) = W at hst HUP ⊢
          have HST := Lib.hid hst
          obtain ⟨x1, x2, _, _, A2, cc, x5, x6⟩ := hst.cells
          have hcv : ∀ a : Nat, (convert 22 9 (.slice (restA A2 cc (s.at_ + k)) n (cc - (s.at_ + k)))).run Try.prog (W.drewN a) = .ok (.string ⟨((s.b.drop (s.at_ + k)).take n).toArray⟩) (W.drewN a) := fun a => by
            have r2 := x6.part (l := s.at_ + k) (h := s.at_ + k + n) rfl (by omega) (by show _ ≤ s.b.length; omega)
            simp only [partV_eq, Nat.add_sub_cancel_left] at r2
            exact (r2.drewN a).to_string Try.underlying22 tByte tString
          have hsl := slice_of tBytes A2 s.b.length cc .i64 .i64 ((s.at_ + k : Nat) : Int) ((s.at_ + k + n : Nat) : Int) (s.at_ + k) (s.at_ + k + n) rfl rfl (by omega) (by have := x6.shape.2.1; simp only at this; omega)
          simp only [partV_eq, Nat.add_sub_cancel_left] at hsl
          have hw3 : IntKind.i64.wrap (((s.at_ + k + n : Nat) : Int) - (n : Int)) = ((s.at_ + k : Nat) : Int) := by rw [IntWalk.i64_in _ (by omega)]; omega
          simp only at x1 x2 x5
          clear x6 hst x2
          generalize hQ : s.at_ + k + n = Q at *
          generalize hL : s.at_ + k = L at *
          go_quiet (fail)
          go_wp2
          go_ret
          rw [HF.out]
          have h9 := HST.out.drewN nq
          rw [H0.out] at h9
          exact ⟨rfl, h9, HUP.out.drewN _⟩
    · have HF := Lib.hid (show s.text most = ([], ⟨s.b, s.at_, e⟩) by rw [HTX.out, if_neg he])
      have he2 : ((e : Int) != 0) = true := by rw [bne_iff_ne]; omega
      clear HTX
      go_enter Try.func38, Try.ntmps38
      go_wp2
      go_quiet ((go_at_call 50; exact Calls.quiet_of_same (HRD.out _)))
      go_wp2
      go_ret
      rw [HF.out]
      exact ⟨rfl, (HS.out.drewN nq).setE e hnb.1.2, ((Upd.refl _ _).drewN nq).set (.inl one_self) _⟩
  · have htx : s.text most = ([], s) := by unfold ScS.text; rw [if_neg h0]
    have HN := Lib.hid htx
    have h1 : ((s.e : Int) != 0) = true := by rw [bne_iff_ne]; omega
    clear h0 htx c6
    go_enter Try.func38, Try.ntmps38
    go_wp2
    go_ret
    rw [HN.out]
    exact ⟨rfl, HS.out, Upd.refl _ _⟩
end Go.Proofs.Ytikbpgcalmndoaa
