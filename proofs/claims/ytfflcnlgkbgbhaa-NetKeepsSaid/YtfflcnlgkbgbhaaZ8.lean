/-
  Texts of this claim, put together: RefScan, RefScTx, MsgRd, RegF.
-/
import Derived.Test.YtfflcnlgkbgbhaaZ7
import Derived.IntWalk
import Derived.Test.YtfflcnlgkbgbhaaZ4
import Derived.Test.YtfflcnlgkbgbhaaZ6
import Derived.Laws.ResultCell
import Derived.Laws.Rows
import Derived.Deep.RegionHeld3
import Derived.RegionTactic
import Derived.Lib.Hide
set_option linter.unusedVariables false
set_option linter.unusedSimpArgs false
namespace Go.Proofs.Ytfflcnlgkbgbhaa
open Go.RowKit

/-- The reference's scan lies at block r; its bytes in S. -/
def Rc (w : World) (r : Nat) (S : Nat → Prop) (s : ScS) : Prop :=
  ∃ v, w.heap[r]? = some (.cells #[v, .int .i64 (s.at_ : Int), .int .i64 (s.e : Int)] 90 (0, 0)) ∧ Rs kByte w S v s.b ∧ ¬ S r ∧ s.ok
theorem Rc.ok_ {w : World} {r : Nat} {S : Nat → Prop} {s : ScS} (h : Rc w r S s) : s.ok := let ⟨_, _, _, _, h⟩ := h; h
theorem Rc.cells {w : World} {r : Nat} {S : Nat → Prop} {s : ScS} (h : Rc w r S s) : w.cell? ⟨r, 1, none⟩ = some (.int .i64 (s.at_ : Int)) ∧ w.cell? ⟨r, 2, none⟩ = some (.int .i64 (s.e : Int)) ∧
    w.frozen? ⟨r, 1, none⟩ = false ∧ w.frozen? ⟨r, 2, none⟩ = false ∧ ∃ A c, w.cell? ⟨r, 0, none⟩ = some (.slice A s.b.length c) ∧ Rs kByte w S (.slice A s.b.length c) s.b := by
  obtain ⟨v, h1, h2, _⟩ := h
  have h2' := h2
  obtain ⟨A, c, rfl, _⟩ := h2'
  exact ⟨by rw [cell_blk h1]; rfl, by rw [cell_blk h1]; rfl, frozen_blk h1 1, frozen_blk h1 2, A, c, by rw [cell_blk h1]; rfl, h2⟩
theorem Rc.drewN {w : World} {r : Nat} {S : Nat → Prop} {s : ScS} (h : Rc w r S s) (n : Nat) : Rc (w.drewN n) r S s :=
  let ⟨v, h1, h2, h3⟩ := h; ⟨v, h1, h2.drewN n, h3⟩
theorem Rc.setAt {w : World} {r : Nat} {S : Nat → Prop} {s : ScS} (h : Rc w r S s) (k : Nat) (hk : k ≤ s.b.length) : Rc (w.setCell ⟨r, 1, none⟩ (.int .i64 (k : Int))) r S ⟨s.b, k, s.e⟩ := by
  obtain ⟨v, h1, h2, h3, h4⟩ := h
  exact ⟨v, by rw [heap_setCell_same w r 1 _ _ _ h1]; rfl, h2.seti h3 _, h3, hk, h4.2⟩
theorem Rc.setE {w : World} {r : Nat} {S : Nat → Prop} {s : ScS} (h : Rc w r S s) (e : Nat) (he : e ≤ 10) : Rc (w.setCell ⟨r, 2, none⟩ (.int .i64 (e : Int))) r S ⟨s.b, s.at_, e⟩ := by
  obtain ⟨v, h1, h2, h3, h4⟩ := h
  exact ⟨v, by rw [heap_setCell_same w r 2 _ _ _ h1]; rfl, h2.seti h3 _, h3, h4.1, he⟩
theorem Rc.upd {S T : Nat → Prop} {w w' : World} {r : Nat} {s : ScS} (h : Rc w r S s) (hu : Upd T w w') (hr : ¬ T r) (hS : ∀ b, S b → ¬ T b) : Rc w' r S s := by
  obtain ⟨v, h1, h2, h3⟩ := h
  exact ⟨v, blk_upd h1 hu hr, h2.keep fun b hb hl => hu.block b hl (hS b hb), h3⟩

def one (r b : Nat) : Prop := b = r
theorem one_self {r : Nat} : one r r := rfl

set_option maxRecDepth 100000 in
set_option maxHeartbeats 4000000 in
theorem RcNumber_calls (w : World) (r : Nat) (S : Nat → Prop) (s : ScS) (hs : Rc w r S s) :
    Calls Try.prog 57 #[.pointer (some ⟨r, 0, none⟩)] w fun e w' => e = .returned (.int .i64 (s.number.1 : Int)) ∧ Rc w' r S s.number.2 ∧ Upd (one r) w w' := by
  have HS := Lib.hid hs
  obtain ⟨c1, c2, c3, c4, A, c, c5, c6⟩ := hs.cells
  have hok := hs.ok_.1
  have hnb := ScS.ok_number hs.ok_
  clear hs
  by_cases h0 : s.e = 0
  · have hnum : s.number = ((rd (s.b.drop s.at_)).1, ⟨s.b, s.at_ + (rd (s.b.drop s.at_)).2.1, (rd (s.b.drop s.at_)).2.2⟩) := by unfold ScS.number; rw [if_pos h0]
    skip
    rw [hnum] at hnb
    have HN := Lib.hid hnum
    have hrest := c6.from_ (l := s.at_) rfl hok
    have hs1 := slice_from tBytes A s.b.length c .i64 (s.at_ : Int) s.at_ rfl hok
    have hz : s.b.length ≤ 140737488355328 := c6.shape.2.2.2.1
    simp only [partV_eq] at hrest hs1
    have HREST := Lib.hid hrest
    have H0 := Lib.hid h0
    have hzz := (rd_bd (s.b.drop s.at_)).2.2.1
    rw [h0] at c2
    have C6 := Lib.hid c6
    clear hrest hnum c6 h0
    generalize hr : rd (s.b.drop s.at_) = R at hnb HN hzz 
    obtain ⟨n, k, e⟩ := R
    have HR := Lib.hid hr
    simp only [ScS.ok] at hnb hzz 
    have HZ := Lib.hid hzz
    skip
    clear hr hzz
    have HRD := Lib.hid (fun (j : Nat) => show Calls Try.prog 81 #[.slice (restA A c s.at_) (s.b.length - s.at_) (c - s.at_)] (w.drewN j) (fun e' w' => e' = .returned (.tuple #[.int .i64 (n : Int), .int .i64 (k : Int), .int .i64 (e : Int)]) ∧ w' = w.drewN j) from
      (Read_calls _ S _ _ (HREST.out.drewN _)).mono fun _ _ ⟨h1, h2⟩ => ⟨by rw [HR.out] at h1; exact h1, h2.symm⟩)
    go_enter Try.func57, Try.ntmps57
    go_wp2
    go_quiet ((go_at_call 81; exact Calls.quiet_of_same (HRD.out _)))
    go_wp2
    go_ret
    rw [HN.out]
    have h1 := ((HS.out.drewN nq).setAt (s.at_ + k) hnb.1.1).setE e hnb.1.2
    exact ⟨rfl, h1, (((Upd.refl _ _).drewN nq).set (.inl one_self) _).set (.inl one_self) _⟩
  · have hnum : s.number = (0, s) := by unfold ScS.number; rw [if_neg h0]
    have HN := Lib.hid hnum
    have h1 : ((s.e : Int) != 0) = true := by rw [bne_iff_ne]; omega
    clear h0 hnum c6
    go_enter Try.func57, Try.ntmps57
    go_wp2
    go_ret
    rw [HN.out]
    exact ⟨rfl, HS.out, Upd.refl _ _⟩

set_option maxRecDepth 100000 in
set_option maxHeartbeats 4000000 in
theorem RcFlag_calls (w : World) (r : Nat) (S : Nat → Prop) (s : ScS) (hs : Rc w r S s) :
    Calls Try.prog 58 #[.pointer (some ⟨r, 0, none⟩)] w fun e w' => e = .returned (.bool s.flag.1) ∧ Rc w' r S s.flag.2 ∧ Upd (one r) w w' := by
  have HS := Lib.hid hs
  obtain ⟨c1, c2, c3, c4, A, c, c5, c6⟩ := hs.cells
  have hok := hs.ok_.1
  have hnb := ScS.ok_number hs.ok_
  clear hs
  by_cases h0 : s.e = 0
  · have hnum : s.number = ((rd (s.b.drop s.at_)).1, ⟨s.b, s.at_ + (rd (s.b.drop s.at_)).2.1, (rd (s.b.drop s.at_)).2.2⟩) := by unfold ScS.number; rw [if_pos h0]
    have hfl : s.flag = if (rd (s.b.drop s.at_)).2.2 = 0 then (if 1 < (rd (s.b.drop s.at_)).1 then (false, ⟨s.b, s.at_, 10⟩) else (decide ((rd (s.b.drop s.at_)).1 = 1), ⟨s.b, s.at_ + (rd (s.b.drop s.at_)).2.1, 0⟩)) else (false, ⟨s.b, s.at_, (rd (s.b.drop s.at_)).2.2⟩) := by unfold ScS.flag; rw [if_pos h0]
    rw [hnum] at hnb
    have HN := Lib.hid hnum
    have hrest := c6.from_ (l := s.at_) rfl hok
    have hs1 := slice_from tBytes A s.b.length c .i64 (s.at_ : Int) s.at_ rfl hok
    have hz : s.b.length ≤ 140737488355328 := c6.shape.2.2.2.1
    simp only [partV_eq] at hrest hs1
    have HREST := Lib.hid hrest
    have H0 := Lib.hid h0
    have hzz := (rd_bd (s.b.drop s.at_)).2.2.1
    rw [h0] at c2
    have C6 := Lib.hid c6
    clear hrest hnum c6 h0
    generalize hr : rd (s.b.drop s.at_) = R at hnb HN hzz hfl
    obtain ⟨n, k, e⟩ := R
    have HR := Lib.hid hr
    simp only [ScS.ok] at hnb hzz hfl
    have HZ := Lib.hid hzz
    have HFL := Lib.hid hfl
    clear hfl
    clear hr hzz
    have HRD := Lib.hid (fun (j : Nat) => show Calls Try.prog 81 #[.slice (restA A c s.at_) (s.b.length - s.at_) (c - s.at_)] (w.drewN j) (fun e' w' => e' = .returned (.tuple #[.int .i64 (n : Int), .int .i64 (k : Int), .int .i64 (e : Int)]) ∧ w' = w.drewN j) from
      (Read_calls _ S _ _ (HREST.out.drewN _)).mono fun _ _ ⟨h1, h2⟩ => ⟨by rw [HR.out] at h1; exact h1, h2.symm⟩)
    by_cases he : e = 0
    · subst he
      by_cases h1 : 1 < n
      · have HF := Lib.hid (show s.flag = (false, ⟨s.b, s.at_, 10⟩) by rw [HFL.out, if_pos rfl, if_pos h1])
        have h1' : (1 : Int) < (n : Int) := by omega
        clear HFL
        go_enter Try.func58, Try.ntmps58
        go_wp2
        go_quiet ((go_at_call 81; exact Calls.quiet_of_same (HRD.out _)))
        go_wp2
        go_ret
        rw [HF.out]
        exact ⟨rfl, (HS.out.drewN nq).setE 10 (by omega), ((Upd.refl _ _).drewN nq).set (.inl one_self) _⟩
      · have HF := Lib.hid (show s.flag = (decide (n = 1), ⟨s.b, s.at_ + k, 0⟩) by rw [HFL.out, if_pos rfl, if_neg h1])
        have hb1 : ((n : Int) == 1) = decide (n = 1) := by
          by_cases h : n = 1
          · subst h; rfl
          · rw [decide_eq_false h]; exact beq_eq_false_iff_ne.2 (by omega)
        have HB1 := Lib.hid hb1
        have h1' : decide ((1 : Int) < (n : Int)) = false := decide_eq_false (by omega)
        clear HFL hb1
        go_enter Try.func58, Try.ntmps58
        go_wp2
        go_quiet ((go_at_call 81; exact Calls.quiet_of_same (HRD.out _)))
        go_wp2
        go_ret
        rw [HF.out]
        have h2 := (HS.out.drewN nq).setAt (s.at_ + k) hnb.1.1
        rw [H0.out] at h2
        exact ⟨by rw [← HB1.out]; rfl, h2, ((Upd.refl _ _).drewN nq).set (.inl one_self) _⟩
    · have HF := Lib.hid (show s.flag = (false, ⟨s.b, s.at_, e⟩) by rw [HFL.out, if_neg he])
      have he1 : ((e : Int) == 0) = false := beq_eq_false_iff_ne.2 (by omega)
      have he2 : ((e : Int) != 0) = true := by rw [bne_iff_ne]; omega
      clear HFL
      go_enter Try.func58, Try.ntmps58
      go_wp2
      go_quiet ((go_at_call 81; exact Calls.quiet_of_same (HRD.out _)))
      go_wp2
      go_ret
      rw [HF.out]
      exact ⟨rfl, (HS.out.drewN nq).setE e hnb.1.2, ((Upd.refl _ _).drewN nq).set (.inl one_self) _⟩
  · have hfl : s.flag = (false, s) := by unfold ScS.flag; rw [if_neg h0]
    have HN := Lib.hid hfl
    have h1 : ((s.e : Int) != 0) = true := by rw [bne_iff_ne]; omega
    clear h0 hfl c6
    go_enter Try.func58, Try.ntmps58
    go_wp2
    go_ret
    rw [HN.out]
    exact ⟨rfl, HS.out, Upd.refl _ _⟩

end Go.Proofs.Ytfflcnlgkbgbhaa
set_option linter.unusedVariables false
set_option linter.unusedSimpArgs false
namespace Go.Proofs.Ytfflcnlgkbgbhaa
open Go.RowKit

set_option maxRecDepth 100000 in
set_option maxHeartbeats 8000000 in
theorem RcText_calls (w : World) (r : Nat) (S : Nat → Prop) (s : ScS) (hs : Rc w r S s) (most : Int) :
    Calls Try.prog 59 #[.pointer (some ⟨r, 0, none⟩), .int .i64 most] w fun e w' => e = .returned (.string ⟨(s.text most).1.toArray⟩) ∧ Rc w' r S (s.text most).2 ∧ Upd (one r) w w' := by
  have HS := Lib.hid hs
  obtain ⟨c1, c2, c3, c4, A, c, c5, c6⟩ := hs.cells
  have hok := hs.ok_.1
  have hnb := ScS.ok_number hs.ok_
  clear hs
  by_cases h0 : s.e = 0
  · have hnum : s.number = ((rd (s.b.drop s.at_)).1, ⟨s.b, s.at_ + (rd (s.b.drop s.at_)).2.1, (rd (s.b.drop s.at_)).2.2⟩) := by unfold ScS.number; rw [if_pos h0]
    have htx : s.text most = if (rd (s.b.drop s.at_)).2.2 = 0 then
      if (most.toNat < (rd (s.b.drop s.at_)).1) then ([], ⟨s.b, s.at_, 4⟩)
      else if s.b.length < s.at_ + (rd (s.b.drop s.at_)).2.1 + (rd (s.b.drop s.at_)).1 then ([], ⟨s.b, s.at_, 2⟩)
      else ((s.b.drop (s.at_ + (rd (s.b.drop s.at_)).2.1)).take (rd (s.b.drop s.at_)).1, ⟨s.b, s.at_ + (rd (s.b.drop s.at_)).2.1 + (rd (s.b.drop s.at_)).1, 0⟩)
    else ([], ⟨s.b, s.at_, (rd (s.b.drop s.at_)).2.2⟩) := by unfold ScS.text; rw [if_pos h0]
    rw [hnum] at hnb
    have hrest := c6.from_ (l := s.at_) rfl hok
    have hs1 := slice_from tBytes A s.b.length c .i64 (s.at_ : Int) s.at_ rfl hok
    have hz : s.b.length ≤ 140737488355328 := c6.shape.2.2.2.1
    simp only [partV_eq] at hrest hs1
    have HREST := Lib.hid hrest
    have H0 := Lib.hid h0
    rw [h0] at c2
    have C6 := Lib.hid c6
    clear hrest hnum c6 h0
    generalize hr : rd (s.b.drop s.at_) = R at hnb htx
    obtain ⟨n, k, e⟩ := R
    have HR := Lib.hid hr
    simp only [ScS.ok] at hnb htx
    have HTX := Lib.hid htx
    clear hr htx
    have HRD := Lib.hid (fun (j : Nat) => show Calls Try.prog 81 #[.slice (restA A c s.at_) (s.b.length - s.at_) (c - s.at_)] (w.drewN j) (fun e' w' => e' = .returned (.tuple #[.int .i64 (n : Int), .int .i64 (k : Int), .int .i64 (e : Int)]) ∧ w' = w.drewN j) from
      (Read_calls _ S _ _ (HREST.out.drewN _)).mono fun _ _ ⟨h1, h2⟩ => ⟨by rw [HR.out] at h1; exact h1, h2.symm⟩)
    by_cases he : e = 0
    · subst he
      by_cases h1 : most.toNat < n
      · have HF := Lib.hid (show s.text most = ([], ⟨s.b, s.at_, 4⟩) by rw [HTX.out, if_pos rfl, if_pos h1])
        have h1' : most < (n : Int) := by omega
        have h2' : (0 : Int) < (n : Int) := by omega
        clear HTX
        go_enter Try.func59, Try.ntmps59
        go_wp2
        go_quiet ((go_at_call 81; exact Calls.quiet_of_same (HRD.out _)))
        go_wp2
        go_ret
        rw [HF.out]
        exact ⟨rfl, (HS.out.drewN nq).setE 4 (by omega), ((Upd.refl _ _).drewN nq).set (.inl one_self) _⟩
      by_cases h2 : s.b.length < s.at_ + k + n
      · have HF := Lib.hid (show s.text most = ([], ⟨s.b, s.at_, 2⟩) by rw [HTX.out, if_pos rfl, if_neg h1, if_pos h2])
        have h3 : (s.b.length : Int) - (s.at_ : Int) - (k : Int) < (n : Int) := by omega
        have h1' : decide (most < (n : Int)) = false := decide_eq_false (by omega)
        have hwr1 : IntKind.i64.wrap ((s.b.length : Int) - (s.at_ : Int)) = (s.b.length : Int) - (s.at_ : Int) := IntWalk.i64_in _ (by omega)
        have hwr2 : IntKind.i64.wrap ((s.b.length : Int) - (s.at_ : Int) - (k : Int)) = (s.b.length : Int) - (s.at_ : Int) - (k : Int) := IntWalk.i64_in _ (by omega)
        clear HTX
        go_enter Try.func59, Try.ntmps59
        go_wp2
        go_quiet ((go_at_call 81; exact Calls.quiet_of_same (HRD.out _)))
        generalize nq = m1
        go_wp2
        go_quiet (fail)
        go_wp2
        go_ret
        rw [HF.out]
        exact ⟨rfl, (HS.out.drewN _).setE 2 (by omega), ((Upd.refl _ _).drewN _).set (.inl one_self) _⟩
      · have HF := Lib.hid (show s.text most = ((s.b.drop (s.at_ + k)).take n, ⟨s.b, s.at_ + k + n, 0⟩) by rw [HTX.out, if_pos rfl, if_neg h1, if_neg h2])
        have h3 : decide ((s.b.length : Int) - (s.at_ : Int) - (k : Int) < (n : Int)) = false := decide_eq_false (by omega)
        have hwr1 : IntKind.i64.wrap ((s.b.length : Int) - (s.at_ : Int)) = (s.b.length : Int) - (s.at_ : Int) := IntWalk.i64_in _ (by omega)
        have hwr2 : IntKind.i64.wrap ((s.b.length : Int) - (s.at_ : Int) - (k : Int)) = (s.b.length : Int) - (s.at_ : Int) - (k : Int) := IntWalk.i64_in _ (by omega)
        clear HTX
        by_cases hmn : most < (n : Int)
        · have h2' : decide ((0 : Int) < (n : Int)) = false := decide_eq_false (by omega)
          go_enter Try.func59, Try.ntmps59
          go_wp2
          go_quiet ((go_at_call 81; exact Calls.quiet_of_same (HRD.out _)))
          generalize nq = m1
          go_wp2
          go_quiet (fail)
          generalize nq = m2
          go_wp2
          clear hwr1 hwr2 hs1 c1 c2 c3 c4 c5
          rw [show (s.at_ : Int) + ((k : Int) + (n : Int)) = ((s.at_ + k + n : Nat) : Int) by omega]
          have hst := (HS.out.drewN (m1 + m2)).setAt (s.at_ + k + n) (by omega)
          have HUP := Lib.hid ((((Upd.refl (one r) w).drewN (m1 + m2))).set (i := 1) (.inl one_self) (.int .i64 ((s.at_ + k + n : Nat) : Int)))
          generalize (w.drewN (m1 + m2)).setCell ⟨r, 1, none⟩ (.int .i64 ((s.at_ + k + n : Nat) : Int)) = W at hst HUP ⊢
          have HST := Lib.hid hst
          obtain ⟨x1, x2, _, _, A2, cc, x5, x6⟩ := hst.cells
          have hcv : ∀ a : Nat, (convert 24 9 (.slice (restA A2 cc (s.at_ + k)) n (cc - (s.at_ + k)))).run Try.prog (W.drewN a) = .ok (.string ⟨((s.b.drop (s.at_ + k)).take n).toArray⟩) (W.drewN a) := fun a => by
            have r2 := x6.part (l := s.at_ + k) (h := s.at_ + k + n) rfl (by omega) (by show _ ≤ s.b.length; omega)
            simp only [partV_eq, Nat.add_sub_cancel_left] at r2
            exact (r2.drewN a).to_string Try.underlying24 tByte tString
          have hsl := slice_of tBytes A2 s.b.length cc .i64 .i64 ((s.at_ + k : Nat) : Int) ((s.at_ + k + n : Nat) : Int) (s.at_ + k) (s.at_ + k + n) rfl rfl (by omega) (by have := x6.shape.2.1; simp only at this; omega)
          simp only [partV_eq, Nat.add_sub_cancel_left] at hsl
          have hw3 : IntKind.i64.wrap (((s.at_ + k + n : Nat) : Int) - (n : Int)) = ((s.at_ + k : Nat) : Int) := by rw [IntWalk.i64_in _ (by omega)]; omega
          simp only at x1 x2 x5
          clear x6 hst x2
          generalize hQ : s.at_ + k + n = Q at *
          generalize hL : s.at_ + k = L at *
          go_quiet (fail)
          go_wp2
          go_ret
          rw [HF.out]
          have h9 := HST.out.drewN nq
          rw [H0.out] at h9
          exact ⟨rfl, h9, HUP.out.drewN _⟩
        · have h1' : decide (most < (n : Int)) = false := decide_eq_false hmn
          go_enter Try.func59, Try.ntmps59
          go_wp2
          go_quiet ((go_at_call 81; exact Calls.quiet_of_same (HRD.out _)))
          generalize nq = m1
          go_wp2
          go_quiet (fail)
          generalize nq = m2
          go_wp2
          clear hwr1 hwr2 hs1 c1 c2 c3 c4 c5
          rw [show (s.at_ : Int) + ((k : Int) + (n : Int)) = ((s.at_ + k + n : Nat) : Int) by omega]
          have hst := (HS.out.drewN (m1 + m2)).setAt (s.at_ + k + n) (by omega)
          have HUP := Lib.hid ((((Upd.refl (one r) w).drewN (m1 + m2))).set (i := 1) (.inl one_self) (.int .i64 ((s.at_ + k + n : Nat) : Int)))
          generalize (w.drewN (m1 + m2)).setCell ⟨r, 1, none⟩ (.int .i64 ((s.at_ + k + n : Nat) : Int)) = W at hst HUP ⊢
          have HST := Lib.hid hst
          obtain ⟨x1, x2, _, _, A2, cc, x5, x6⟩ := hst.cells
          have hcv : ∀ a : Nat, (convert 24 9 (.slice (restA A2 cc (s.at_ + k)) n (cc - (s.at_ + k)))).run Try.prog (W.drewN a) = .ok (.string ⟨((s.b.drop (s.at_ + k)).take n).toArray⟩) (W.drewN a) := fun a => by
            have r2 := x6.part (l := s.at_ + k) (h := s.at_ + k + n) rfl (by omega) (by show _ ≤ s.b.length; omega)
            simp only [partV_eq, Nat.add_sub_cancel_left] at r2
            exact (r2.drewN a).to_string Try.underlying24 tByte tString
          have hsl := slice_of tBytes A2 s.b.length cc .i64 .i64 ((s.at_ + k : Nat) : Int) ((s.at_ + k + n : Nat) : Int) (s.at_ + k) (s.at_ + k + n) rfl rfl (by omega) (by have := x6.shape.2.1; simp only at this; omega)
          simp only [partV_eq, Nat.add_sub_cancel_left] at hsl
          have hw3 : IntKind.i64.wrap (((s.at_ + k + n : Nat) : Int) - (n : Int)) = ((s.at_ + k : Nat) : Int) := by rw [IntWalk.i64_in _ (by omega)]; omega
          simp only at x1 x2 x5
          clear x6 hst x2
          generalize hQ : s.at_ + k + n = Q at *
          generalize hL : s.at_ + k = L at *
          go_quiet (fail)
          go_wp2
          go_ret
          rw [HF.out]
          have h9 := HST.out.drewN nq
          rw [H0.out] at h9
          exact ⟨rfl, h9, HUP.out.drewN _⟩
    · have HF := Lib.hid (show s.text most = ([], ⟨s.b, s.at_, e⟩) by rw [HTX.out, if_neg he])
      have he2 : ((e : Int) != 0) = true := by rw [bne_iff_ne]; omega
      clear HTX
      go_enter Try.func59, Try.ntmps59
      go_wp2
      go_quiet ((go_at_call 81; exact Calls.quiet_of_same (HRD.out _)))
      go_wp2
      go_ret
      rw [HF.out]
      exact ⟨rfl, (HS.out.drewN nq).setE e hnb.1.2, ((Upd.refl _ _).drewN nq).set (.inl one_self) _⟩
  · have htx : s.text most = ([], s) := by unfold ScS.text; rw [if_neg h0]
    have HN := Lib.hid htx
    have h1 : ((s.e : Int) != 0) = true := by rw [bne_iff_ne]; omega
    clear h0 htx c6
    go_enter Try.func59, Try.ntmps59
    go_wp2
    go_ret
    rw [HN.out]
    exact ⟨rfl, HS.out, Upd.refl _ _⟩
end Go.Proofs.Ytfflcnlgkbgbhaa
set_option linter.unusedVariables false
set_option linter.unusedSimpArgs false
namespace Go.Proofs.Ytfflcnlgkbgbhaa
open Go.RowKit

theorem Ext.bytes {a b : World} (h : Ext a b) (e : TypeId) (s : ByteArray) : Ext a (Lib.bytesWorld b e s) :=
  ⟨h.os, h.tape, h.output, by rw [Lib.bytesWorld_size]; have := h.size; omega, fun k hk => (Lib.bytesWorld_at_old b e s k (Nat.lt_of_lt_of_le hk h.size)).trans (h.block k hk)⟩
theorem ba_size (t : List UInt8) : (⟨t.toArray⟩ : ByteArray).size = t.length := by simp [ByteArray.size]
/-- Bytes of a string: what they are in memory. -/
theorem Rs.bytes (W : World) (e : TypeId) (t : List UInt8) (ht : t.length ≤ 140737488355328) :
    Rs kByte (Lib.bytesWorld W e ⟨t.toArray⟩) (W.heap.size ≤ ·) (.slice (some ⟨W.heap.size, 0, none⟩) t.length (grownCap W t.length 0 e)) t :=
  ⟨_, _, rfl, grownCap_ge _ _ _ _, by have := grownCap_le_maxLen W t.length 0 e (by simp only [maxLen]; omega); simpa [maxLen] using this, ht,
    fun _ => ⟨_, rfl, Nat.le_refl _, by rw [Lib.bytesWorld_size]; show W.heap.size < W.heap.size + 1; omega, fun j x hj => ⟨_, ⟨rfl, trivial⟩, fun i u hi => by
      cases i with
      | zero =>
        simp at hi; subst hi
        have hl := (List.getElem?_eq_some_iff.1 hj).1
        rw [show j * kByte.sz + 0 = j from Nat.mul_one j, add_lit0, Lib.bytesWorld_cell W e ⟨t.toArray⟩ j (by rw [ba_size]; exact hl)]
        simp [List.getD, hj]
      | succ i => simp at hi⟩⟩⟩
theorem conv_bytes {P : Program} {src dst e : TypeId} {u : TypeDesc} (t : List UInt8) (hs : P.underlying src = some u) (hd : P.underlying dst = some (.slice e)) (he : P.underlying e = some (.int .u8)) (W : World) :
    (convert src dst (.string ⟨t.toArray⟩)).run P W = .ok (.slice (some ⟨W.heap.size, 0, none⟩) t.length (grownCap W t.length 0 e)) (Lib.bytesWorld W e ⟨t.toArray⟩) := by
  have := Lib.run_convert_string_bytes (P := P) W src dst e ⟨t.toArray⟩ hs hd he
  rw [ba_size] at this
  exact this

/-- Where all lies: C: the scan's blocks, pm: the message, rr: the result, SE: the entries', SV: the voters'. -/
structure Lay (w : World) (C : Nat → Prop) (X : World → ScS → Prop) (pm rr : Nat) (SE SV : Nat → Prop) : Prop where
  pmw : w.heap.size ≤ pm
  rrw : w.heap.size ≤ rr
  ne : pm ≠ rr
  cw : ∀ b, C b → w.heap.size ≤ b ∧ b ≠ pm ∧ b ≠ rr
  ew : ∀ b, SE b → w.heap.size ≤ b ∧ b ≠ pm ∧ b ≠ rr ∧ ¬ C b
  vw : ∀ b, SV b → w.heap.size ≤ b ∧ b ≠ pm ∧ b ≠ rr ∧ ¬ C b
  ev : ∀ b, SE b → ¬ SV b
  keep : ∀ {W W' s}, X W s → (∀ b, b < W.heap.size → b < w.heap.size ∨ C b → W'.heap[b]? = W.heap[b]?) → X W' s
def nilV : Value := .slice none 0 0
structure RdW (w : World) (cb : Nat) (X : World → ScS → Prop) (pm rr : Nat) (SE SV : Nat → Prop) (W : World) (cs : Array Value) (ve : Value) (es : List EntS) (vv : Value) (vs : List Int) (s : ScS) : Prop where
  msg : W.heap[pm]? = some (.cells cs 26 (0, 0))
  res : W.heap[rr]? = some (.cells (msgC zeroM (.slice none 0 0) (.slice none 0 0) (.slice none 0 0)) 26 (0, 0))
  sc : X W s
  ent : Ow kEnt 71 W w.heap.size SE ve es
  vot : Ow kInt 3 W w.heap.size SV vv vs
  ext : Ext w W
  big : cb ≤ W.heap.size
section
variable {w : World} {C : Nat → Prop} {X : World → ScS → Prop} {pm rr cb : Nat} {SE SV : Nat → Prop} {W W' : World} {cs : Array Value} {ve : Value} {es : List EntS} {vv : Value} {vs : List Int} {s s' : ScS}
theorem RdW.call (L : Lay w C X pm rr SE SV) (h : RdW w cb X pm rr SE SV W cs ve es vv vs s) (hu : Upd C W W') (hx : X W' s') : RdW w cb X pm rr SE SV W' cs ve es vv vs s' :=
  ⟨blk_upd h.msg hu fun hc => (L.cw _ hc).2.1 rfl, blk_upd h.res hu fun hc => (L.cw _ hc).2.2 rfl, hx, h.ent.upd hu fun b hb => (L.ew b hb).2.2.2, h.vot.upd hu fun b hb => (L.vw b hb).2.2.2, hu.ext h.ext fun b hb => (L.cw b hb).1, Nat.le_trans h.big hu.le⟩
theorem RdW.ext_ (L : Lay w C X pm rr SE SV) (h : RdW w cb X pm rr SE SV W cs ve es vv vs s) (he : Ext W W') : RdW w cb X pm rr SE SV W' cs ve es vv vs s :=
  ⟨blk_ext h.msg he, blk_ext h.res he, L.keep h.sc fun b hb _ => he.block b hb, h.ent.ext he, h.vot.ext he, h.ext.trans he, Nat.le_trans h.big he.le⟩
theorem RdW.set (L : Lay w C X pm rr SE SV) (h : RdW w cb X pm rr SE SV W cs ve es vv vs s) (k : Nat) (v : Value) : RdW w cb X pm rr SE SV (W.setCell ⟨pm, k, none⟩ v) (cs.setIfInBounds k v) ve es vv vs s :=
  ⟨heap_setCell_same W pm k _ _ _ h.msg, by rw [heap_setCell_other W ⟨pm, k, none⟩ rr _ (fun e => L.ne e.symm)]; exact h.res,
    L.keep h.sc fun b hb hc => heap_setCell_other W ⟨pm, k, none⟩ b _ (fun e => by
      have e' : b = pm := e
      have := L.pmw
      rcases hc with hc | hc
      · omega
      · exact (L.cw b hc).2.1 e'),
    h.ent.seti (fun hb => (L.ew _ hb).2.1 rfl) _, h.vot.seti (fun hb => (L.vw _ hb).2.1 rfl) _, h.ext.seti L.pmw _, by simpa [World.setCell] using h.big⟩
theorem RdW.growE (L : Lay w C X pm rr SE SV) (h : RdW w cb X pm rr SE SV W cs ve es vv vs s) {ve' : Value} {es' : List EntS} (ho : Ow kEnt 71 W' w.heap.size SE ve' es') (hg : W.grownBy W' ve.ownBlock) : RdW w cb X pm rr SE SV W' cs ve' es' vv vs s := by
  have hne : ∀ k, ve.ownBlock = some k → SE k := h.ent.1
  refine ⟨(hg.block pm (blk_lt h.msg) fun e => (L.ew _ (hne pm e.symm)).2.1 rfl).trans h.msg, (hg.block rr (blk_lt h.res) fun e => (L.ew _ (hne rr e.symm)).2.2.1 rfl).trans h.res,
    L.keep h.sc fun b hb hc => hg.block b hb fun e => ?_, ho, h.vot.grown hg fun k hk hv => L.ev k (hne k hk) hv, h.ext.grown hg (fun k hk => (L.ew k (hne k hk)).1), Nat.le_trans h.big hg.size⟩
  have := L.ew b (hne b e.symm)
  rcases hc with hc | hc
  · omega
  · exact this.2.2.2 hc
theorem RdW.growV (L : Lay w C X pm rr SE SV) (h : RdW w cb X pm rr SE SV W cs ve es vv vs s) {vv' : Value} {vs' : List Int} (ho : Ow kInt 3 W' w.heap.size SV vv' vs') (hg : W.grownBy W' vv.ownBlock) : RdW w cb X pm rr SE SV W' cs ve es vv' vs' s := by
  have hne : ∀ k, vv.ownBlock = some k → SV k := h.vot.1
  refine ⟨(hg.block pm (blk_lt h.msg) fun e => (L.vw _ (hne pm e.symm)).2.1 rfl).trans h.msg, (hg.block rr (blk_lt h.res) fun e => (L.vw _ (hne rr e.symm)).2.2.1 rfl).trans h.res,
    L.keep h.sc fun b hb hc => hg.block b hb fun e => ?_, h.ent.grown hg fun k hk hv => L.ev k hv (hne k hk), ho, h.ext.grown hg (fun k hk => (L.vw k (hne k hk)).1), Nat.le_trans h.big hg.size⟩
  have := L.vw b (hne b e.symm)
  rcases hc with hc | hc
  · omega
  · exact this.2.2.2 hc
/-- The entries are read: what comes is the voters'. -/
theorem Lay.shutE (L : Lay w C X pm rr SE SV) {c : Nat} (hw : w.heap.size ≤ c) (hp : pm < c) (hr : rr < c) (hC : ∀ b, C b → b < c) : Lay w C X pm rr (fun b => SE b ∧ b < c) (c ≤ ·) :=
  ⟨L.pmw, L.rrw, L.ne, L.cw, fun b hb => L.ew b hb.1, fun b hb => ⟨Nat.le_trans hw hb, by omega, by omega, fun hc => by have := hC b hc; omega⟩, fun b hb hv => by have := hb.2; omega, L.keep⟩
theorem RdW.shutE (h : RdW w cb X pm rr SE SV W cs ve es (.slice none 0 0) [] s) : RdW w W.heap.size X pm rr (fun b => SE b ∧ b < W.heap.size) (W.heap.size ≤ ·) W cs ve es (.slice none 0 0) [] s :=
  ⟨h.msg, h.res, h.sc, h.ent.bound, Ow.nil _ _ _ _ _, h.ext, Nat.le_refl _⟩
end

/-! ### the calls of a scan -/
/-- X is the scan of p and q. -/
structure ScnP (X : World → ScS → Prop) (C : Nat → Prop) (p q : Nat) : Prop where
  sc : ∀ W s, X W s → ∃ B, Sc W B p q s ∧ ∀ W' s', Sc W' B p q s' → X W' s'
  up : ∀ W W' : World, Upd (two p q) W W' → Upd C W W'
section
variable {w : World} {C : Nat → Prop} {X : World → ScS → Prop} {pm rr cb : Nat} {SE SV : Nat → Prop} {W W' : World} {cs : Array Value} {ve : Value} {es : List EntS} {vv : Value} {vs : List Int} {s s' : ScS} {p q : Nat}
theorem ScnP.number (Z : ScnP X C p q) (L : Lay w C X pm rr SE SV) (h : RdW w cb X pm rr SE SV W cs ve es vv vs s) {n : Nat} (e : s.number = (n, s')) :
    Calls Try.prog 76 #[.pointer (some ⟨p, 0, none⟩)] W fun r w' => r = .returned (.int .i64 (n : Int)) ∧ RdW w cb X pm rr SE SV w' cs ve es vv vs s' ∧ Upd C W w' := by
  obtain ⟨B, hs, hb⟩ := Z.sc _ _ h.sc
  have := ScNumber_calls W B p q s hs
  rw [e] at this
  exact this.mono fun r w' ⟨h1, h2, h3⟩ => ⟨h1, h.call L (Z.up _ _ h3) (hb _ _ h2), Z.up _ _ h3⟩
theorem ScnP.flag (Z : ScnP X C p q) (L : Lay w C X pm rr SE SV) (h : RdW w cb X pm rr SE SV W cs ve es vv vs s) {n : Bool} (e : s.flag = (n, s')) :
    Calls Try.prog 77 #[.pointer (some ⟨p, 0, none⟩)] W fun r w' => r = .returned (.bool n) ∧ RdW w cb X pm rr SE SV w' cs ve es vv vs s' ∧ Upd C W w' := by
  obtain ⟨B, hs, hb⟩ := Z.sc _ _ h.sc
  have := ScFlag_calls W B p q s hs
  rw [e] at this
  exact this.mono fun r w' ⟨h1, h2, h3⟩ => ⟨h1, h.call L (Z.up _ _ h3) (hb _ _ h2), Z.up _ _ h3⟩
theorem ScnP.text (Z : ScnP X C p q) (L : Lay w C X pm rr SE SV) (h : RdW w cb X pm rr SE SV W cs ve es vv vs s) {most : Int} {t : List UInt8} (e : s.text most = (t, s')) :
    Calls Try.prog 79 #[.pointer (some ⟨p, 0, none⟩), .int .i64 most] W fun r w' => r = .returned (.string ⟨t.toArray⟩) ∧ RdW w cb X pm rr SE SV w' cs ve es vv vs s' ∧ Upd C W w' := by
  obtain ⟨B, hs, hb⟩ := Z.sc _ _ h.sc
  have := ScText_calls W B p q s hs most
  rw [e] at this
  exact this.mono fun r w' ⟨h1, h2, h3⟩ => ⟨h1, h.call L (Z.up _ _ h3) (hb _ _ h2), Z.up _ _ h3⟩
theorem ScnP.end_ (Z : ScnP X C p q) (L : Lay w C X pm rr SE SV) (h : RdW w cb X pm rr SE SV W cs ve es vv vs s) :
    Calls Try.prog 80 #[.pointer (some ⟨p, 0, none⟩)] W fun r w' => r = .returned (.int .i64 (s.end_.e : Int)) ∧ RdW w cb X pm rr SE SV w' cs ve es vv vs s.end_ ∧ Upd C W w' := by
  obtain ⟨B, hs, hb⟩ := Z.sc _ _ h.sc
  exact (ScEnd_calls W B p q s hs).mono fun r w' ⟨h1, h2, h3⟩ => ⟨h1, h.call L (Z.up _ _ h3) (hb _ _ h2), Z.up _ _ h3⟩
theorem ScnP.err (Z : ScnP X C p q) (h : RdW w cb X pm rr SE SV W cs ve es vv vs s) :
    Calls Try.prog 78 #[.pointer (some ⟨p, 0, none⟩)] W fun r w' => r = .returned (.int .i64 (s.e : Int)) ∧ W = w' := by
  obtain ⟨B, hs, _⟩ := Z.sc _ _ h.sc
  exact Err_calls W B p q s hs
theorem ScnP.ok (Z : ScnP X C p q) (h : RdW w cb X pm rr SE SV W cs ve es vv vs s) : s.ok := by
  obtain ⟨B, hs, _⟩ := Z.sc _ _ h.sc
  exact hs.ok_
theorem Rs.one_ent {T : Nat → Prop} {g : Nat} {t : TypeId} {i n : Int} {vd : Value} {d : List UInt8} (hb : W.heap[g]? = some (.cells #[.int .i64 i, .int .i64 n, vd] t (0, 0))) (hS : T g) (hd : Rs kByte W T vd d) (hi : I64 i) (hn : I64 n) :
    Rs kEnt W T (.slice (some ⟨g, 0, none⟩) 1 1) [⟨i, n, d⟩] :=
  ⟨_, 1, rfl, by simp, by omega, by simp, Row.of_block hb hS fun j x hj => by
    match j, hj with
    | 0, hj =>
      simp at hj; subst hj
      obtain ⟨Ad, cd, e, _⟩ := id hd
      subst e
      refine ⟨_, kEnt_iff.2 ⟨_, rfl, hd, hi, hn⟩, fun i u hi => ?_⟩
      simp only [Nat.zero_mul, Nat.zero_add]
      simpa using hi⟩
/-- One entry more. -/
theorem step_app_ent {ops : Array Oper} {o : Oper} {a : Act} {K : Act → World → Prop} {Q : Exit → Act → World → Prop} {E : Prop} (D ss sy : Nat) (hD : o.dst = some D) (hgd : o.guard = none)
    (ho : o.op = .call { callee := .builtin .append, args := #[.tmp ss, .tmp sy], argTypes := #[22, 22] }) {c1 : Nat} (i n : Int) (vd : Value) (d : List UInt8) (T : Nat → Prop) (W1 : World)
    (hi : I64 i) (hn : I64 n) (hl : es.length ≤ 9) (hT : ∀ b, T b → W1.heap.size ≤ b) (hTW : T W.heap.size) (hd : Rs kByte W T vd d)
    (L : Lay w C X pm rr (c1 ≤ ·) SV) (h1 : RdW w c1 X pm rr (c1 ≤ ·) SV W1 cs ve es vv vs s) (hw1 : Ext W1 W)
    (hs : a.eval (.tmp ss) = ve) (hx : a.eval (.tmp sy) = .slice (some ⟨W.heap.size, 0, none⟩) 1 1)
    (h : ∀ v' w', RdW w c1 X pm rr (c1 ≤ ·) SV w' cs v' (es ++ [⟨i, n, d⟩]) vv vs s → K (a.put (some D) v') w') :
    if Region.wanted o (yielded ops a.tmps) = true then Oper.wp Try.prog o a (W.alloc (.cells #[.int .i64 i, .int .i64 n, vd] 71)) K Q else E := by
  have hc := h1.big
  have h2 := (h1.ext_ L hw1).ext_ L ((Ext.refl W).alloc (.cells #[.int .i64 i, .int .i64 n, vd] 71))
  refine step_append_Rs kEnt D hD hgd (.tmp ss) (.tmp sy) 22 71 ho tEnts w.heap.size ve (.slice (some ⟨W.heap.size, 0, none⟩) 1 1) es [⟨i, n, d⟩] (c1 ≤ ·) T hs hx h2.ent (Rs.one_ent (heap_alloc_new W _) hTW (hd.alloc _) hi hn)
    (fun y cs hy => kEnt.mono (fun b hb => ⟨Nat.le_trans hc (hT b hb), fun e => ?_⟩) hy) (fun b hb => ?_) (by simp; omega) ?_ (fun v' w' ho hg _ => h v' w' (h2.growE L ho hg))
  · have := h1.ent.lt b e.symm
    have := hT b hb
    omega
  · have := hw1.le
    simp at hb
    show c1 ≤ b
    omega
  · exact h2.ext.le
/-- One voter more. -/
theorem step_app_int {ops : Array Oper} {o : Oper} {a : Act} {K : Act → World → Prop} {Q : Exit → Act → World → Prop} {E : Prop} (D ss sy : Nat) (hD : o.dst = some D) (hgd : o.guard = none)
    (ho : o.op = .call { callee := .builtin .append, args := #[.tmp ss, .tmp sy], argTypes := #[23, 23] }) {c2 : Nat} (i : Int)
    (hi : I64 i) (hl : vs.length ≤ 9)
    (L : Lay w C X pm rr SE (c2 ≤ ·)) (h1 : RdW w c2 X pm rr SE (c2 ≤ ·) W cs ve es vv vs s)
    (hs : a.eval (.tmp ss) = vv) (hx : a.eval (.tmp sy) = .slice (some ⟨W.heap.size, 0, none⟩) 1 1)
    (h : ∀ v' w', RdW w c2 X pm rr SE (c2 ≤ ·) w' cs ve es v' (vs ++ [i]) s → K (a.put (some D) v') w') :
    if Region.wanted o (yielded ops a.tmps) = true then Oper.wp Try.prog o a (W.alloc (.cells #[.int .i64 i] 3)) K Q else E := by
  have hc := h1.big
  have h2 := h1.ext_ L ((Ext.refl W).alloc (.cells #[.int .i64 i] 3))
  refine step_append_Rs kInt D hD hgd (.tmp ss) (.tmp sy) 23 3 ho tInts w.heap.size vv (.slice (some ⟨W.heap.size, 0, none⟩) 1 1) vs [i] (c2 ≤ ·) (fun _ => True) hs hx h2.vot (Rs.one_int _ _ _ rfl _ hi)
    (fun y cs hy => hy) (fun b hb => ?_) (by simp; omega) ?_ (fun v' w' ho hg _ => h v' w' (h2.growV L ho hg))
  · simp at hb
    show c2 ≤ b
    omega
  · exact h2.ext.le
end

/-- A message stored, cell by cell. -/
def setM (W : World) (g : Nat) (m : MsgS) (v10 v11 v12 : Value) : World :=
  (((((((((((((W.setCell ⟨g, 0, none⟩ (.int .i64 m.kind)).setCell ⟨g, 1, none⟩ (.int .i64 m.from_)).setCell ⟨g, 2, none⟩ (.int .i64 m.to_)).setCell ⟨g, 3, none⟩ (.int .i64 m.term)).setCell ⟨g, 4, none⟩ (.int .i64 m.index)).setCell ⟨g, 5, none⟩ (.int .i64 m.logTerm)).setCell ⟨g, 6, none⟩ (.int .i64 m.commit)).setCell ⟨g, 7, none⟩ (.int .i64 m.round)).setCell ⟨g, 8, none⟩ (.bool m.yes)).setCell ⟨g, 9, none⟩ (.bool m.done)).setCell ⟨g, 10, none⟩ v10).setCell ⟨g, 11, none⟩ v11).setCell ⟨g, 12, none⟩ v12)
theorem setM_heap (W : World) (g : Nat) (m : MsgS) (v10 v11 v12 : Value) {m0 : MsgS} {a b c : Value} {t : TypeId} (h : W.heap[g]? = some (.cells (msgC m0 a b c) t (0, 0))) : (setM W g m v10 v11 v12).heap[g]? = some (.cells (msgC m v10 v11 v12) t (0, 0)) := by
  have h0 := heap_setCell_same W g 0 _ _ (.int .i64 m.kind) h
  have h1 := heap_setCell_same _ g 1 _ _ (.int .i64 m.from_) h0
  have h2 := heap_setCell_same _ g 2 _ _ (.int .i64 m.to_) h1
  have h3 := heap_setCell_same _ g 3 _ _ (.int .i64 m.term) h2
  have h4 := heap_setCell_same _ g 4 _ _ (.int .i64 m.index) h3
  have h5 := heap_setCell_same _ g 5 _ _ (.int .i64 m.logTerm) h4
  have h6 := heap_setCell_same _ g 6 _ _ (.int .i64 m.commit) h5
  have h7 := heap_setCell_same _ g 7 _ _ (.int .i64 m.round) h6
  have h8 := heap_setCell_same _ g 8 _ _ (.bool m.yes) h7
  have h9 := heap_setCell_same _ g 9 _ _ (.bool m.done) h8
  have h10 := heap_setCell_same _ g 10 _ _ v10 h9
  have h11 := heap_setCell_same _ g 11 _ _ v11 h10
  have h12 := heap_setCell_same _ g 12 _ _ v12 h11
  simp only [msgC, List.setIfInBounds_toArray, List.set_cons_zero, List.set_cons_succ] at h12
  exact h12
theorem upd_at {g : Nat} {a b : World} (h : Upd (fun x => x = g) a b) (i : Nat) (u : Value) : Upd (fun x => x = g) a (b.setCell ⟨g, i, none⟩ u) := Upd.set (g := g) (i := i) h (Or.inl (show g = g from rfl)) u
theorem setM_upd (W : World) (g : Nat) (m : MsgS) (v10 v11 v12 : Value) : Upd (fun b => b = g) W (setM W g m v10 v11 v12) := by
  unfold setM
  refine upd_at ?_ _ _
  refine upd_at ?_ _ _
  refine upd_at ?_ _ _
  refine upd_at ?_ _ _
  refine upd_at ?_ _ _
  refine upd_at ?_ _ _
  refine upd_at ?_ _ _
  refine upd_at ?_ _ _
  refine upd_at ?_ _ _
  refine upd_at ?_ _ _
  refine upd_at ?_ _ _
  refine upd_at ?_ _ _
  refine upd_at ?_ _ _
  exact Upd.refl _ _
section
variable {w : World} {C : Nat → Prop} {X : World → ScS → Prop} {pm rr cb : Nat} {SE SV : Nat → Prop} {W W' : World} {cs : Array Value} {ve : Value} {es : List EntS} {vv : Value} {vs : List Int} {s s' : ScS}
/-- The result is stored. -/
theorem RdW.result (L : Lay w C X pm rr SE SV) (h : RdW w cb X pm rr SE SV W cs ve es vv vs s) (m : MsgS) (v10 v11 v12 : Value) :
    (setM W rr m v10 v11 v12).heap[rr]? = some (.cells (msgC m v10 v11 v12) 26 (0, 0)) ∧ (setM W rr m v10 v11 v12).heap[pm]? = some (.cells cs 26 (0, 0)) ∧
      Ow kEnt 71 (setM W rr m v10 v11 v12) w.heap.size SE ve es ∧ Ow kInt 3 (setM W rr m v10 v11 v12) w.heap.size SV vv vs ∧ Ext w (setM W rr m v10 v11 v12) :=
  have hu := setM_upd W rr m v10 v11 v12
  ⟨setM_heap W rr m v10 v11 v12 h.res, blk_upd h.msg hu L.ne, h.ent.upd hu fun b hb => (L.ew b hb).2.2.1, h.vot.upd hu fun b hb => (L.vw b hb).2.2.1, hu.ext h.ext fun b hb => by have : b = rr := hb; rw [this]; exact L.rrw⟩
end

/-! ### the first eight numbers -/
def numsA (s : ScS) : Nat → List Nat × ScS
  | 0 => ([], s)
  | k + 1 => ((numsA s k).1 ++ [(numsA s k).2.number.1], (numsA s k).2.number.2)
theorem numsA_len (s : ScS) : ∀ k, (numsA s k).1.length = k
  | 0 => rfl
  | k + 1 => by show ((numsA s k).1 ++ [_]).length = _; rw [List.length_append, numsA_len s k]; rfl
/-- A message's cells when its first numbers are read. -/
def tailC8 : List Value := [Value.bool false, Value.bool false, Value.slice none 0 0, Value.slice none 0 0, Value.slice none 0 0]
def zint : Nat → Value := fun n => Value.int IntKind.i64 (n : Int)
def headC8 (xs : List Nat) : Array Value := (xs.map zint ++ (List.replicate (8 - xs.length) (Value.int .i64 0) ++ tailC8)).toArray
theorem headC8_snoc (xs : List Nat) (n : Nat) (h : xs.length < 8) : (headC8 xs).setIfInBounds xs.length (.int .i64 (n : Int)) = headC8 (xs ++ [n]) := by
  unfold headC8
  obtain ⟨j, hj⟩ : ∃ j, 8 - xs.length = j + 1 := ⟨7 - xs.length, by omega⟩
  rw [hj, List.length_append, List.length_singleton, show 8 - (xs.length + 1) = j by omega, List.replicate_succ]
  simp [List.set_append, zint]
theorem headC8_at (xs : List Nat) (h : xs.length < 8) : (headC8 xs)[xs.length]? = some (.int .i64 0) := by
  unfold headC8
  obtain ⟨j, hj⟩ : ∃ j, 8 - xs.length = j + 1 := ⟨7 - xs.length, by omega⟩
  rw [hj, List.replicate_succ]
  simp
theorem numsA_ok (s : ScS) (h : s.ok) : ∀ k, (numsA s k).2.ok ∧ ∀ x ∈ (numsA s k).1, x < 9223372036854775808
  | 0 => ⟨h, fun x hx => by cases hx⟩
  | k + 1 => by
    obtain ⟨h1, h2⟩ := numsA_ok s h k
    have h3 := ScS.ok_number h1
    refine ⟨h3.1, fun x hx => ?_⟩
    rcases List.mem_append.1 (show x ∈ (numsA s k).1 ++ [(numsA s k).2.number.1] from hx) with h4 | h4
    · exact h2 x h4
    · rw [List.mem_singleton.1 h4]; exact h3.2
/-- A result in memory, a message, and one in a slot. -/
theorem results_msg {fn : Func} {p u : Tmp} (h : fn.results = #[.cell p 26, .tmp u]) (tmps : Array Value) (w : World) (g : Nat) (t : TypeId) (m : MsgS) (a b c : Value) (fr : Nat × Nat)
    (hp : tmps.getD p undef = .pointer (some ⟨g, 0, none⟩)) (hg : w.heap[g]? = some (.cells (msgC m a b c) t fr)) :
    (results fn tmps).run Try.prog w = .ok (.tuple #[.agg (msgC m a b c), tmps.getD u undef]) w := by
  have hm : (Try.prog.info? 26).map (·.size) = some 13 := by kernel_rfl
  rw [results_cell_tmp h, hp]
  simp only [asAddr, Sem.run_pure, Result.andThen_ok]
  rw [run_loadVar_row w g t 26 (msgC m a b c) fr _ hg Try.underlying26 rfl hm]
  rfl
theorem text_len (s : ScS) (most : Int) : (s.text most).1.length ≤ most.toNat := by
  unfold ScS.text
  repeat' split
  all_goals first | exact Nat.zero_le _ | skip
  rename_i h1 _ h2 h3
  show (List.take _ _).length ≤ _
  rw [List.length_take]
  omega
theorem rdMsg_of {st : Bool} {fv : Nat} {s : ScS} {a0 a1 a2 a3 a4 a5 a6 a7 c v : Nat} {y d : Bool} {es : List EntS} {vs : List Int} {t : List UInt8} {s8 sy sd sc se sv svs st' : ScS} (q : ([a0, a1, a2, a3, a4, a5, a6, a7], s8) = numsA s 8)
    (q8 : s8.flag = (y, sy)) (q9 : sy.flag = (d, sd)) (q10 : sd.number = (c, sc)) (q11 : rdEnts st (a4 : Int) c 9 0 sc = (es, se)) (q12 : se.number = (v, sv)) (q13 : rdNums st v fv 0 sv = (vs, svs)) (q14 : svs.text 512 = (t, st')) :
    rdMsg st fv s = (⟨a0, a1, a2, a3, a4, a5, a6, a7, y, d, es, vs, t⟩, c, v, st') := by
  simp only [numsA, List.nil_append, List.append_assoc, List.singleton_append, List.cons_append, Prod.mk.injEq, List.cons.injEq, and_true] at q
  obtain ⟨⟨h0, h1, h2, h3, h4, h5, h6, h7⟩, h8⟩ := q
  unfold rdMsg
  simp only [← h0, ← h1, ← h2, ← h3, ← h4, ← h5, ← h6, ← h7, ← h8, q8, q9, q10, q11, q12, q13, q14]
theorem rdEnts_stop {ix : Int} {c k : Nat} {s : ScS} (hk : k ≤ 9) (h : ¬ (k < c ∧ k ≤ 8 ∧ s.e = 0)) : rdEnts true ix c (9 - k) k s = ([], s) := by
  rcases Nat.eq_zero_or_pos (9 - k) with h0 | h0
  · rw [h0]; rfl
  · obtain ⟨f, hf⟩ : ∃ f, 9 - k = f + 1 := ⟨8 - k, by omega⟩
    rw [hf]; unfold rdEnts
    rw [if_neg (fun hc => h ⟨hc.1, by omega, hc.2 rfl⟩)]
theorem rdEnts_more {ix : Int} {c k n : Nat} {t : List UInt8} {s s1 s2 : ScS} (h : k < c ∧ k ≤ 8 ∧ s.e = 0) (q1 : s.number = (n, s1)) (q2 : s1.text 4096 = (t, s2)) :
    rdEnts true ix c (9 - k) k s = (⟨entIx ix k, (n : Int), t⟩ :: (rdEnts true ix c (9 - (k + 1)) (k + 1) s2).1, (rdEnts true ix c (9 - (k + 1)) (k + 1) s2).2) := by
  obtain ⟨f, hf⟩ : ∃ f, 9 - k = f + 1 := ⟨8 - k, by omega⟩
  rw [hf]
  conv => lhs; unfold rdEnts
  rw [if_pos ⟨h.1, fun _ => h.2.2⟩, q1]
  simp only [q2]
  rw [show 9 - (k + 1) = f by omega]
theorem rdNums_stop {c k : Nat} {s : ScS} (hk : k ≤ 8) (h : ¬ (k < c ∧ k ≤ 7 ∧ s.e = 0)) : rdNums true c (8 - k) k s = ([], s) := by
  rcases Nat.eq_zero_or_pos (8 - k) with h0 | h0
  · rw [h0]; rfl
  · obtain ⟨f, hf⟩ : ∃ f, 8 - k = f + 1 := ⟨7 - k, by omega⟩
    rw [hf]; unfold rdNums
    rw [if_neg (fun hc => h ⟨hc.1, by omega, hc.2 rfl⟩)]
theorem rdNums_more {c k n : Nat} {s s1 : ScS} (h : k < c ∧ k ≤ 7 ∧ s.e = 0) (q1 : s.number = (n, s1)) :
    rdNums true c (8 - k) k s = ((n : Int) :: (rdNums true c (8 - (k + 1)) (k + 1) s1).1, (rdNums true c (8 - (k + 1)) (k + 1) s1).2) := by
  obtain ⟨f, hf⟩ : ∃ f, 8 - k = f + 1 := ⟨7 - k, by omega⟩
  rw [hf]
  conv => lhs; unfold rdNums
  rw [if_pos ⟨h.1, fun _ => h.2.2⟩, q1]
  simp only
  rw [show 8 - (k + 1) = f by omega]
end Go.Proofs.Ytfflcnlgkbgbhaa
set_option linter.unusedVariables false
set_option linter.unusedSimpArgs false
namespace Go.Proofs.Ytfflcnlgkbgbhaa
open Go.RowKit

section
variable {P : Program} {ops : Array Oper} {Q : Exit → Act → World → Prop} {md : Region.Mode} {S0 S1 : World → Prop} {f : Nat}

/-- Whatever order is picked; behind every operation S0 holds, and S1 while f is to come. -/
def wpF (P : Program) (md : Region.Mode) (ops : Array Oper) (Q : Exit → Act → World → Prop) (S0 S1 : World → Prop) (f : Nat) : Nat → Array Bool → Act → World → Prop
  | 0, listed, a, w => Region.ready md ops listed = [] ∧ Q .normal a w
  | fuel + 1, listed, a, w =>
    (Region.ready md ops listed = [] → Q .normal a w) ∧
    ∀ i ∈ Region.ready md ops listed, wpOp P ops Q i (fun a' w' => (S0 w' ∧ ((listed.setIfInBounds i true).getD f true = false → S1 w')) ∧ wpF P md ops Q S0 S1 f fuel (listed.setIfInBounds i true) a' w') a w
theorem wpF_any : ∀ (fuel : Nat) (listed : Array Bool) (a : Act) (w : World), wpF P md ops Q S0 S1 f fuel listed a w → wpAny P md ops Q fuel listed a w
  | 0, _, _, _, h => h
  | fuel + 1, _, _, _, h => ⟨h.1, fun i hi => wpOp_mono (fun a' w' h' => wpF_any fuel _ a' w' h'.2) (h.2 i hi)⟩
/-- What yields the same in every world that meets G is taken first; G holds while it is to come (T, hG). -/
theorem wpF_first {i : Nat} {oi : Oper} {v : Value} (G : World → Prop) (T : Array Bool → Prop) (hi : ops[i]? = some oi) (hsel : ∀ (j : Nat) (o : Oper) cs b, ops[j]? = some o → o.op ≠ .select cs b)
    (hQ : ∀ c a w, Q (.panic c) (a.put oi.dst v) w → Q (.panic c) a w) (hif : i ≠ f)
    (hG : ∀ (l : Array Bool) (w : World), T l → S0 w → (l.getD f true = false → S1 w) → G w)
    (hT : ∀ (l : Array Bool) (j : Nat) (oj : Oper), T l → ops[j]? = some oj → j ≠ i → (∀ e ∈ oj.after, Region.binds md e = true → e.on ≠ i) → T (l.setIfInBounds j true)) :
    ∀ (fuel : Nat) (listed : Array Bool) (a : Act) (w : World),
      (∀ j oj, ops[j]? = some oj → j ≠ i → listed.getD j true = false → (∀ e ∈ oj.after, Region.binds md e = true → e.on ≠ i) → oi.apart ops oj = true) →
      i ∈ Region.ready md ops listed → YieldsIf P ops G oi v a → S0 w → (listed.getD f true = false → S1 w) → T listed →
      wpF P md ops Q S0 S1 f fuel (listed.setIfInBounds i true) (a.put oi.dst v) w → wpF P md ops Q S0 S1 f (fuel + 1) listed a w := by
  intro fuel
  induction fuel with
  | zero =>
    intro listed a w _ hr hy hS0 hS1 hTl H
    refine ⟨fun h => (by rw [h] at hr; cases hr), fun j hj => ?_⟩
    by_cases hji : j = i
    · subst hji; exact hy.wpOp hi (hG _ _ hTl hS0 hS1) ⟨⟨hS0, fun e => hS1 (by rw [getD_set_ne true hif] at e; exact e)⟩, H⟩
    · have := ready_mono hj hji
      rw [H.1] at this
      cases this
  | succ fuel ih =>
    intro listed a w hfree hr hy hS0 hS1 hTl H
    refine ⟨fun h => (by rw [h] at hr; cases hr), fun j hj => ?_⟩
    by_cases hji : j = i
    · subst hji; exact hy.wpOp hi (hG _ _ hTl hS0 hS1) ⟨⟨hS0, fun e => hS1 (by rw [getD_set_ne true hif] at e; exact e)⟩, H⟩
    · have h1 := H.2 j (ready_mono hj hji)
      obtain ⟨hjun, oj, hoj, hall⟩ := mem_ready.1 hj
      have hnot : ∀ e ∈ oj.after, Region.binds md e = true → e.on ≠ i := fun e he hb heq => by
        have h1 := hall e he hb
        have h0 := (mem_ready.1 hr).1
        rw [heq] at h1
        rcases Nat.lt_or_ge i listed.size with h' | h'
        · simp [h'] at h0 h1; rw [h0] at h1; cases h1
        · simp [Array.getElem?_eq_none h'] at h1
      have h2 := wpOp_putIf hoj (hfree j oj hoj hji hjun hnot) (fun cs b => hsel i oi cs b hi) (fun cs b => hsel j oj cs b hoj) hQ hy h1
      have hfree' : ∀ k ok, ops[k]? = some ok → k ≠ i → (listed.setIfInBounds j true).getD k true = false →
          (∀ e ∈ ok.after, Region.binds md e = true → e.on ≠ i) → oi.apart ops ok = true := fun k ok hk hki hun hno => by
        refine hfree k ok hk hki ?_ hno
        by_cases hjk : j = k
        · subst hjk; exact hjun
        · rw [getD_set_ne true hjk] at hun; exact hun
      refine wpOp_mono (fun a' w' h3 => ?_) h2
      have hs : (listed.setIfInBounds j true).getD f true = false → S1 w' := fun e => h3.2.1.2 (by
        rw [Array.setIfInBounds_comm _ _ (Ne.symm hji), getD_set_ne true hif]; exact e)
      refine ⟨⟨h3.2.1.1, hs⟩, ih (listed.setIfInBounds j true) a' w' hfree' (ready_mono hr (Ne.symm hji)) h3.1 h3.2.1.1 hs (hT _ _ _ hTl hoj hji hnot) ?_⟩
      rw [Array.setIfInBounds_comm _ _ hji]
      exact h3.2.2
theorem op_at {i : Nat} {oi : Oper} {tl : List Oper} (h : ops.toList.drop i = oi :: tl) : ops[i]? = some oi := by
  rw [← Array.getElem?_toList]
  have := congrArg (fun l => l[0]?) h
  simpa [List.getElem?_drop] using this
/-- Taken first: what yields in every world that meets S0. -/
theorem wpF_take0 {i : Nat} {oi : Oper} {tl : List Oper} {v : Value} {fuel : Nat} {listed : Array Bool} {a : Act} {w : World} (hi' : ops.toList.drop i = oi :: tl)
    (hs : Region.noSelect ops = true) (hf : Region.free md ops listed i = true) (hr : (Region.ready md ops listed).contains i = true)
    (hQ : ∀ c a w, Q (.panic c) (a.put oi.dst v) w → Q (.panic c) a w) (hif : (i == f) = false) (hy : YieldsIf P ops S0 oi v a) (h0 : S0 w) (h1 : listed.getD f true = false → S1 w)
    (h : wpF P md ops Q S0 S1 f fuel (listed.setIfInBounds i true) (a.put oi.dst v) w) : wpF P md ops Q S0 S1 f (fuel + 1) listed a w :=
  wpF_first S0 (fun _ => True) (op_at hi') (Region.noSelect_spec hs) hQ (by simpa using hif) (fun _ _ _ h _ => h) (fun _ _ _ _ _ _ _ => trivial) fuel listed a w (Region.free_spec (op_at hi') hf) (by simpa using hr) hy h0 h1 trivial h
/-- Does f wait for i? -/
def waits (md : Region.Mode) (ops : Array Oper) (f i : Nat) : Bool := match ops[f]? with
  | some o => o.after.any fun e => Region.binds md e && e.on == i
  | none => false
/-- Taken first: what yields in every world that meets S0 and S1, while f, which waits for it, is to come. -/
theorem wpF_take1 {i : Nat} {oi : Oper} {tl : List Oper} {v : Value} {fuel : Nat} {listed : Array Bool} {a : Act} {w : World} (hi' : ops.toList.drop i = oi :: tl)
    (hs : Region.noSelect ops = true) (hf : Region.free md ops listed i = true) (hr : (Region.ready md ops listed).contains i = true)
    (hQ : ∀ c a w, Q (.panic c) (a.put oi.dst v) w → Q (.panic c) a w) (hif : (i == f) = false) (hw : waits md ops f i = true) (hl : listed.getD f true = false) (hy : YieldsIf P ops (fun w => S0 w ∧ S1 w) oi v a) (h0 : S0 w) (h1 : listed.getD f true = false → S1 w)
    (h : wpF P md ops Q S0 S1 f fuel (listed.setIfInBounds i true) (a.put oi.dst v) w) : wpF P md ops Q S0 S1 f (fuel + 1) listed a w :=
  wpF_first (fun w => S0 w ∧ S1 w) (fun l => l.getD f true = false) (op_at hi') (Region.noSelect_spec hs) hQ (by simpa using hif) (fun _ _ hT h0 h1 => ⟨h0, h1 hT⟩) (fun l j oj hT hoj hji hno => by
    by_cases hjf : j = f
    · subst hjf
      unfold waits at hw
      rw [hoj] at hw
      simp only [Array.any_eq_true', Bool.and_eq_true, beq_iff_eq, List.any_eq_true] at hw
      obtain ⟨e, he, hb, hei⟩ := hw
      exact absurd hei (hno e he hb)
    · rw [getD_set_ne true hjf]; exact hT) fuel listed a w (Region.free_spec (op_at hi') hf) (by simpa using hr) hy h0 h1 hl h
/-- The one that may come up comes up. -/
theorem wpF_step {i : Nat} {o : Oper} {tl : List Oper} {fuel : Nat} {listed : Array Bool} {a : Act} {w : World} (hr : Region.ready md ops listed = [i]) (ho : ops.toList.drop i = o :: tl)
    (h : ∀ K' : Act → World → Prop, Hid (∀ a w, S0 w → ((listed.setIfInBounds i true).getD f true = false → S1 w) → wpF P md ops Q S0 S1 f fuel (listed.setIfInBounds i true) a w → K' a w) → if Region.wanted o (yielded ops a.tmps) = true then Oper.wp P o a w K' Q else K' (a.put o.dst undef) w) :
    wpF P md ops Q S0 S1 f (fuel + 1) listed a w := by
  refine ⟨fun h0 => (by rw [hr] at h0; cases h0), fun j hj => ?_⟩
  rw [hr] at hj
  obtain rfl : j = i := by simpa using hj
  exact wpOp_step (op_at ho) fun K' hK => h K' (Lib.hid fun a w h0 h1 h2 => hK a w ⟨⟨h0, h1⟩, h2⟩)
theorem wpF_done {listed : Array Bool} {a : Act} {w : World} (hr : Region.ready md ops listed = []) (h : Q .normal a w) :
    ∀ fuel, wpF P md ops Q S0 S1 f fuel listed a w
  | 0 => ⟨hr, h⟩
  | _ + 1 => ⟨fun _ => h, by rw [hr]; simp⟩
/-- f has come up: S1 is asked no more. -/
theorem gone {l : Array Bool} {f : Nat} {p : Prop} (h : l.getD f true = true) : l.getD f true = false → p := fun e => by rw [h] at e; cases e
/-- The beginning. -/
theorem wpF_region (S0 S1 : World → Prop) (f n : Nat) {id : Nat} {a : Act} {w : World} (hm : P.follows .mixedOrders = true) (hn : ops.size = n)
    (h : wpF P .any ops (NoPanic Q) S0 S1 f n (Array.replicate n false) a w.drew) : (Code.region id ops true).wp P Q a w := by
  subst hn
  exact wp_region_noPanic (wp_region_any hm (wpF_any _ _ _ _ h))
end
end Go.Proofs.Ytfflcnlgkbgbhaa
