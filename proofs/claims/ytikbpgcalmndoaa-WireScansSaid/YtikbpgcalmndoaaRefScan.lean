/-
  spandrelref01.Scan: Number, Text, Flag, End.
-/
import Derived.Test.YtikbpgcalmndoaaRefRead
import Derived.Test.YtikbpgcalmndoaaPart
import Derived.Test.YtikbpgcalmndoaaScanTx
set_option linter.unusedVariables false
set_option linter.unusedSimpArgs false
namespace Go.Proofs.Ytikbpgcalmndoaa
open Go.RowKit

/-- The reference's scan lies at block r; its bytes in S. -/
def Rc (w : World) (r : Nat) (S : Nat → Prop) (s : ScS) : Prop :=
  ∃ v, w.heap[r]? = some (.cells #[v, .int .i64 (s.at_ : Int), .int .i64 (s.e : Int)] 57 (0, 0)) ∧ Rs kByte w S v s.b ∧ ¬ S r ∧ s.ok
theorem Rc.ok_ {w : World} {r : Nat} {S : Nat → Prop} {s : ScS} (h : Rc w r S s) : s.ok := let ⟨_, _, _, _, h⟩ := h; h
theorem Rc.cells {w : World} {r : Nat} {S : Nat → Prop} {s : ScS} (h : Rc w r S s) : w.cell? ⟨r, 1, none⟩ = some (.int .i64 (s.at_ : Int)) ∧ w.cell? ⟨r, 2, none⟩ = some (.int .i64 (s.e : Int)) ∧
    w.frozen? ⟨r, 1, none⟩ = false ∧ w.frozen? ⟨r, 2, none⟩ = false ∧ ∃ A c, w.cell? ⟨r, 0, none⟩ = some (.slice A s.b.length c) ∧ Rs kByte w S (.slice A s.b.length c) s.b := by
  obtain ⟨v, h1, h2, _⟩ := h
  have h2' := h2
  obtain ⟨A, c, rfl, _⟩ := h2'
  exact ⟨by rw [cell_blk h1]; rfl, by rw [cell_blk h1]; rfl, frozen_blk h1 1, frozen_blk h1 2, A, c, by rw [cell_blk h1]; rfl, h2⟩
theorem Rc.drewN {w : World} {r : Nat} {S : Nat → Prop} {s : ScS} (h : Rc w r S s) (n : Nat) : Rc (w.drewN n) r S s :=
  let ⟨v, h1, h2, h3⟩ := h; ⟨v, h1, h2.drewN n, h3⟩
theorem Rc.setAt {w : World} {r : Nat} {S : Nat → Prop} {s : ScS} (h : Rc w r S s) (k : Nat) (hk : k ≤ s.b.length) : Rc (w.setCell ⟨r, 1, none⟩ (.int .i64 (k : Int))) r S ⟨s.b, k, s.e⟩ := by
  obtain ⟨v, h1, h2, h3, h4⟩ := h
  exact ⟨v, by rw [heap_setCell_same w r 1 _ _ _ h1]; rfl, h2.seti h3 _, h3, hk, h4.2⟩
theorem Rc.setE {w : World} {r : Nat} {S : Nat → Prop} {s : ScS} (h : Rc w r S s) (e : Nat) (he : e ≤ 10) : Rc (w.setCell ⟨r, 2, none⟩ (.int .i64 (e : Int))) r S ⟨s.b, s.at_, e⟩ := by
  obtain ⟨v, h1, h2, h3, h4⟩ := h
  exact ⟨v, by rw [heap_setCell_same w r 2 _ _ _ h1]; rfl, h2.seti h3 _, h3, h4.1, he⟩
theorem Rc.upd {S T : Nat → Prop} {w w' : World} {r : Nat} {s : ScS} (h : Rc w r S s) (hu : Upd T w w') (hr : ¬ T r) (hS : ∀ b, S b → ¬ T b) : Rc w' r S s := by
  obtain ⟨v, h1, h2, h3⟩ := h
  exact ⟨v, blk_upd h1 hu hr, h2.keep fun b hb hl => hu.block b hl (hS b hb), h3⟩

def one (r b : Nat) : Prop := b = r
theorem one_self {r : Nat} : one r r := rfl

set_option maxRecDepth 100000 in
set_option maxHeartbeats 4000000 in
theorem RcNumber_calls (w : World) (r : Nat) (S : Nat → Prop) (s : ScS) (hs : Rc w r S s) :
    Calls Try.prog 37 #[.pointer (some ⟨r, 0, none⟩)] w fun e w' => e = .returned (.int .i64 (s.number.1 : Int)) ∧ Rc w' r S s.number.2 ∧ Upd (one r) w w' := by
  have HS := Lib.hid hs
  obtain ⟨c1, c2, c3, c4, A, c, c5, c6⟩ := hs.cells
  have hok := hs.ok_.1
  have hnb := ScS.ok_number hs.ok_
  clear hs
  by_cases h0 : s.e = 0
  · have hnum : s.number = ((rd (s.b.drop s.at_)).1, ⟨s.b, s.at_ + (rd (s.b.drop s.at_)).2.1, (rd (s.b.drop s.at_)).2.2⟩) := by unfold ScS.number; rw [if_pos h0]
    skip
    rw [hnum] at hnb
    have HN := Lib.hid hnum
    have hrest := c6.from_ (l := s.at_) rfl hok
    have hs1 := slice_from tBytes A s.b.length c .i64 (s.at_ : Int) s.at_ rfl hok
    have hz : s.b.length ≤ 140737488355328 := c6.shape.2.2.2.1
    simp only [partV_eq] at hrest hs1
    have HREST := Lib.hid hrest
    have H0 := Lib.hid h0
    have hzz := (rd_bd (s.b.drop s.at_)).2.2.1
    rw [h0] at c2
    have C6 := Lib.hid c6
    clear hrest hnum c6 h0
    generalize hr : rd (s.b.drop s.at_) = R at hnb HN hzz 
    obtain ⟨n, k, e⟩ := R
    have HR := Lib.hid hr
    simp only [ScS.ok] at hnb hzz 
    have HZ := Lib.hid hzz
    skip
    clear hr hzz
    have HRD := Lib.hid (fun (j : Nat) => show Calls Try.prog 50 #[.slice (restA A c s.at_) (s.b.length - s.at_) (c - s.at_)] (w.drewN j) (fun e' w' => e' = .returned (.tuple #[.int .i64 (n : Int), .int .i64 (k : Int), .int .i64 (e : Int)]) ∧ w' = w.drewN j) from
      (Read_calls _ S _ _ (HREST.out.drewN _)).mono fun _ _ ⟨h1, h2⟩ => ⟨by rw [HR.out] at h1; exact h1, h2.symm⟩)
    go_enter Try.func37, Try.ntmps37
    go_wp2
    go_quiet ((go_at_call 50; exact Calls.quiet_of_same (HRD.out _)))
    go_wp2
    go_ret
    rw [HN.out]
    have h1 := ((HS.out.drewN nq).setAt (s.at_ + k) hnb.1.1).setE e hnb.1.2
    exact ⟨rfl, h1, (((Upd.refl _ _).drewN nq).set (.inl one_self) _).set (.inl one_self) _⟩
  · have hnum : s.number = (0, s) := by unfold ScS.number; rw [if_neg h0]
    have HN := Lib.hid hnum
    have h1 : ((s.e : Int) != 0) = true := by rw [bne_iff_ne]; omega
    clear h0 hnum c6
    go_enter Try.func37, Try.ntmps37
    go_wp2
    go_ret
    rw [HN.out]
    exact ⟨rfl, HS.out, Upd.refl _ _⟩

set_option maxRecDepth 100000 in
set_option maxHeartbeats 4000000 in
theorem RcFlag_calls (w : World) (r : Nat) (S : Nat → Prop) (s : ScS) (hs : Rc w r S s) :
    Calls Try.prog 39 #[.pointer (some ⟨r, 0, none⟩)] w fun e w' => e = .returned (.bool s.flag.1) ∧ Rc w' r S s.flag.2 ∧ Upd (one r) w w' := by
  have HS := Lib.hid hs
  obtain ⟨c1, c2, c3, c4, A, c, c5, c6⟩ := hs.cells
  have hok := hs.ok_.1
  have hnb := ScS.ok_number hs.ok_
  clear hs
  by_cases h0 : s.e = 0
  · have hnum : s.number = ((rd (s.b.drop s.at_)).1, ⟨s.b, s.at_ + (rd (s.b.drop s.at_)).2.1, (rd (s.b.drop s.at_)).2.2⟩) := by unfold ScS.number; rw [if_pos h0]
    have hfl : s.flag = if (rd (s.b.drop s.at_)).2.2 = 0 then (if 1 < (rd (s.b.drop s.at_)).1 then (false, ⟨s.b, s.at_, 10⟩) else (decide ((rd (s.b.drop s.at_)).1 = 1), ⟨s.b, s.at_ + (rd (s.b.drop s.at_)).2.1, 0⟩)) else (false, ⟨s.b, s.at_, (rd (s.b.drop s.at_)).2.2⟩) := by unfold ScS.flag; rw [if_pos h0]
    rw [hnum] at hnb
    have HN := Lib.hid hnum
    have hrest := c6.from_ (l := s.at_) rfl hok
    have hs1 := slice_from tBytes A s.b.length c .i64 (s.at_ : Int) s.at_ rfl hok
    have hz : s.b.length ≤ 140737488355328 := c6.shape.2.2.2.1
    simp only [partV_eq] at hrest hs1
    have HREST := Lib.hid hrest
    have H0 := Lib.hid h0
    have hzz := (rd_bd (s.b.drop s.at_)).2.2.1
    rw [h0] at c2
    have C6 := Lib.hid c6
    clear hrest hnum c6 h0
    generalize hr : rd (s.b.drop s.at_) = R at hnb HN hzz hfl
    obtain ⟨n, k, e⟩ := R
    have HR := Lib.hid hr
    simp only [ScS.ok] at hnb hzz hfl
    have HZ := Lib.hid hzz
    have HFL := Lib.hid hfl
    clear hfl
    clear hr hzz
    have HRD := Lib.hid (fun (j : Nat) => show Calls Try.prog 50 #[.slice (restA A c s.at_) (s.b.length - s.at_) (c - s.at_)] (w.drewN j) (fun e' w' => e' = .returned (.tuple #[.int .i64 (n : Int), .int .i64 (k : Int), .int .i64 (e : Int)]) ∧ w' = w.drewN j) from
      (Read_calls _ S _ _ (HREST.out.drewN _)).mono fun _ _ ⟨h1, h2⟩ => ⟨by rw [HR.out] at h1; exact h1, h2.symm⟩)
    by_cases he : e = 0
    · subst he
      by_cases h1 : 1 < n
      · have HF := Lib.hid (show s.flag = (false, ⟨s.b, s.at_, 10⟩) by rw [HFL.out, if_pos rfl, if_pos h1])
        have h1' : (1 : Int) < (n : Int) := by omega
        clear HFL
        go_enter Try.func39, Try.ntmps39
        go_wp2
        go_quiet ((go_at_call 50; exact Calls.quiet_of_same (HRD.out _)))
        go_wp2
        go_ret
        rw [HF.out]
        exact ⟨rfl, (HS.out.drewN nq).setE 10 (by omega), ((Upd.refl _ _).drewN nq).set (.inl one_self) _⟩
      · have HF := Lib.hid (show s.flag = (decide (n = 1), ⟨s.b, s.at_ + k, 0⟩) by rw [HFL.out, if_pos rfl, if_neg h1])
        have hb1 : ((n : Int) == 1) = decide (n = 1) := by
          by_cases h : n = 1
          · subst h; rfl
          · rw [decide_eq_false h]; exact beq_eq_false_iff_ne.2 (by omega)
        have HB1 := Lib.hid hb1
        have h1' : decide ((1 : Int) < (n : Int)) = false := decide_eq_false (by omega)
        clear HFL hb1
        go_enter Try.func39, Try.ntmps39
        go_wp2
        go_quiet ((go_at_call 50; exact Calls.quiet_of_same (HRD.out _)))
        go_wp2
        go_ret
        rw [HF.out]
        have h2 := (HS.out.drewN nq).setAt (s.at_ + k) hnb.1.1
        rw [H0.out] at h2
        exact ⟨by rw [← HB1.out]; rfl, h2, ((Upd.refl _ _).drewN nq).set (.inl one_self) _⟩
    · have HF := Lib.hid (show s.flag = (false, ⟨s.b, s.at_, e⟩) by rw [HFL.out, if_neg he])
      have he1 : ((e : Int) == 0) = false := beq_eq_false_iff_ne.2 (by omega)
      have he2 : ((e : Int) != 0) = true := by rw [bne_iff_ne]; omega
      clear HFL
      go_enter Try.func39, Try.ntmps39
      go_wp2
      go_quiet ((go_at_call 50; exact Calls.quiet_of_same (HRD.out _)))
      go_wp2
      go_ret
      rw [HF.out]
      exact ⟨rfl, (HS.out.drewN nq).setE e hnb.1.2, ((Upd.refl _ _).drewN nq).set (.inl one_self) _⟩
  · have hfl : s.flag = (false, s) := by unfold ScS.flag; rw [if_neg h0]
    have HN := Lib.hid hfl
    have h1 : ((s.e : Int) != 0) = true := by rw [bne_iff_ne]; omega
    clear h0 hfl c6
    go_enter Try.func39, Try.ntmps39
    go_wp2
    go_ret
    rw [HN.out]
    exact ⟨rfl, HS.out, Upd.refl _ _⟩

set_option maxRecDepth 100000 in
set_option maxHeartbeats 4000000 in
theorem RcEnd_calls (w : World) (r : Nat) (S : Nat → Prop) (s : ScS) (hs : Rc w r S s) :
    Calls Try.prog 40 #[.pointer (some ⟨r, 0, none⟩)] w fun e w' => e = .returned (.int .i64 (s.end_.e : Int)) ∧ Rc w' r S s.end_ ∧ Upd (one r) w w' := by
  have HS := Lib.hid hs
  obtain ⟨c1, c2, c3, c4, A, c, c5, c6⟩ := hs.cells
  have hok := hs.ok_.1
  clear hs
  clear c6
  by_cases h0 : s.e = 0
  · by_cases h1 : s.at_ < s.b.length
    · have hx : s.end_ = ⟨s.b, s.at_, 3⟩ := by unfold ScS.end_; rw [if_pos ⟨h0, h1⟩]
      have HX := Lib.hid hx
      have h1' : (s.at_ : Int) < (s.b.length : Int) := by omega
      rw [h0] at c2
      clear hx
      go_enter Try.func40, Try.ntmps40
      go_wp2
      go_quiet (fail)
      go_wp2
      go_ret
      rw [HX.out]
      exact ⟨rfl, (HS.out.drewN nq).setE 3 (by omega), ((Upd.refl _ _).drewN nq).set (.inl one_self) _⟩
    · have hx : s.end_ = s := by unfold ScS.end_; rw [if_neg fun h => h1 h.2]
      have HX := Lib.hid hx
      have h1' : decide ((s.at_ : Int) < (s.b.length : Int)) = false := decide_eq_false (by omega)
      have H0 := Lib.hid h0
      rw [h0] at c2
      clear hx
      go_enter Try.func40, Try.ntmps40
      go_wp2
      go_quiet (fail)
      go_wp2
      go_ret
      rw [HX.out]
      exact ⟨by rw [H0.out]; rfl, HS.out.drewN nq, (Upd.refl _ _).drewN nq⟩
  · have hx : s.end_ = s := by unfold ScS.end_; rw [if_neg fun h => h0 h.1]
    have HX := Lib.hid hx
    have he2 : ((s.e : Int) == 0) = false := beq_eq_false_iff_ne.2 (by omega)
    clear hx
    go_enter Try.func40, Try.ntmps40
    go_wp2
    go_quiet (fail)
    go_wp2
    go_ret
    rw [HX.out]
    exact ⟨rfl, HS.out.drewN nq, (Upd.refl _ _).drewN nq⟩
end Go.Proofs.Ytikbpgcalmndoaa
