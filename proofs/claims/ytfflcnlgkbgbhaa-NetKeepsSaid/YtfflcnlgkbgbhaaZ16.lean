/-
  Texts of this claim, put together: MsgRC, MsgRPut, RefPick, MsgRg.
-/
import Derived.Test.YtfflcnlgkbgbhaaZ15
import Derived.Test.YtfflcnlgkbgbhaaZ11
import Derived.Test.YtfflcnlgkbgbhaaZ7
import Derived.Test.YtfflcnlgkbgbhaaZ10
import Derived.Test.YtfflcnlgkbgbhaaZ8
set_option linter.unusedVariables false
set_option linter.unusedSimpArgs false
namespace Go.Proofs.Ytfflcnlgkbgbhaa
open Go.RowKit

theorem allT_drop (T : Int) (es : List EntS) (k : Nat) (hk : k < es.length) : allT T (es.drop k) = (decide (es[k].term ≤ T) && allT T (es.drop (k + 1))) := by
  rw [List.drop_eq_getElem_cons hk]; rfl

set_option maxRecDepth 1000000 in
set_option maxHeartbeats 8000000 in
theorem RMCheck_calls (w : World) (S : Nat → Prop) (v : Value) (m : MsgS) (hm : MsgV w S v m) :
    Calls Try.prog 48 #[v] w fun e w' => e = .returned (.int .i64 (chkME m)) ∧ Ext w w' := by
  obtain ⟨Ae, ce, Av, cv, Ad, cd, rfl, he, hv, hd, hi⟩ := hm.under.form
  clear hm
  have HI := Lib.hid hi
  have HEs := Lib.hid he
  have HVs := Lib.hid hv
  have HCR := Lib.hid (chkR_eq m)
  obtain ⟨-, hec, hec2, hez, -⟩ := he.shape
  clear he hv hd hi
  dsimp only [msgC]
  go_enter Try.func48, Try.ntmps48
  go_upto_region 1 with fail
  obtain ⟨w1, hw1⟩ : ∃ w1, w1 = w.alloc (.cells #[.int .i64 m.kind, .int .i64 m.from_, .int .i64 m.to_, .int .i64 m.term, .int .i64 m.index, .int .i64 m.logTerm, .int .i64 m.commit, .int .i64 m.round, .bool m.yes, .bool m.done, .slice Ae m.entries.length ce, .slice Av m.voters.length cv, .slice Ad m.data.length cd] 26) := ⟨_, rfl⟩
  have HB1 := Lib.hid (show w1.heap[w.heap.size]? = some (.cells #[.int .i64 m.kind, .int .i64 m.from_, .int .i64 m.to_, .int .i64 m.term, .int .i64 m.index, .int .i64 m.logTerm, .int .i64 m.commit, .int .i64 m.round, .bool m.yes, .bool m.done, .slice Ae m.entries.length ce, .slice Av m.voters.length cv, .slice Ad m.data.length cd] 26 (0, 0)) by rw [hw1]; exact heap_new w _ rfl _)
  have HX := Lib.hid (show Ext w w1 by rw [hw1]; exact (Ext.refl w).alloc _)
  rw [← hw1]
  clear hw1
  refine rchkA w.heap.size m.kind m.from_ m.to_ m.term m.index m.logTerm m.commit m.round m.yes m.done Ae m.entries.length ce Av m.voters.length cv Ad m.data.length cd HB1 ?_
  intros
  rename_i w2 hx
  subst hx
  rw [headR_eq]
  have hk0 := cell_blk HB1.out 0
  simp at hk0
  by_cases hs : m.kind = 1 ∨ m.kind = 2 ∨ m.kind = 4 ∨ m.kind = 6
  · have HR := Lib.hid (show (headB m && decide (m.entries.length = 0) && decide (m.voters.length = 0) && decide (m.data.length = 0)) = chkM m by rw [← HCR.out]; unfold chkR; rw [if_pos hs])
    rcases hs with hs | hs | hs | hs
    · have hb1 : (m.kind == 1) = true := beq_iff_eq.2 (by omega)
      have hb2 : (m.kind == 2) = false := beq_eq_false_iff_ne.2 (by omega)
      have hb3 : (m.kind == 3) = false := beq_eq_false_iff_ne.2 (by omega)
      have hb4 : (m.kind == 4) = false := beq_eq_false_iff_ne.2 (by omega)
      have hb5 : (m.kind == 5) = false := beq_eq_false_iff_ne.2 (by omega)
      have hb6 : (m.kind == 6) = false := beq_eq_false_iff_ne.2 (by omega)
      clear hs
      go_upto_region 8 with fail
      refine rchk8 w.heap.size m.kind m.from_ m.to_ m.term m.index m.logTerm m.commit m.round m.yes m.done Ae m.entries.length ce Av m.voters.length cv Ad m.data.length cd HB1 (headB m) ?_
      intros
      rename_i w3 hb hx
      subst hx
      subst hb
      cases hr : chkM m
      · have HF := Lib.hid (chkME_no hr)
        rw [hr] at HR
        clear hr
        rw [HR.out]
        go_wp2_with fail
        go_ret
        exact ⟨int_ret HF.out.symm, HX.out⟩
      · have HF := Lib.hid (chkME_yes hr)
        rw [hr] at HR
        clear hr
        rw [HR.out]
        go_wp2_with fail
        go_ret
        exact ⟨int_ret HF.out.symm, HX.out⟩
    · have hb1 : (m.kind == 1) = false := beq_eq_false_iff_ne.2 (by omega)
      have hb2 : (m.kind == 2) = true := beq_iff_eq.2 (by omega)
      have hb3 : (m.kind == 3) = false := beq_eq_false_iff_ne.2 (by omega)
      have hb4 : (m.kind == 4) = false := beq_eq_false_iff_ne.2 (by omega)
      have hb5 : (m.kind == 5) = false := beq_eq_false_iff_ne.2 (by omega)
      have hb6 : (m.kind == 6) = false := beq_eq_false_iff_ne.2 (by omega)
      clear hs
      go_upto_region 8 with fail
      refine rchk8 w.heap.size m.kind m.from_ m.to_ m.term m.index m.logTerm m.commit m.round m.yes m.done Ae m.entries.length ce Av m.voters.length cv Ad m.data.length cd HB1 (headB m) ?_
      intros
      rename_i w3 hb hx
      subst hx
      subst hb
      cases hr : chkM m
      · have HF := Lib.hid (chkME_no hr)
        rw [hr] at HR
        clear hr
        rw [HR.out]
        go_wp2_with fail
        go_ret
        exact ⟨int_ret HF.out.symm, HX.out⟩
      · have HF := Lib.hid (chkME_yes hr)
        rw [hr] at HR
        clear hr
        rw [HR.out]
        go_wp2_with fail
        go_ret
        exact ⟨int_ret HF.out.symm, HX.out⟩
    · have hb1 : (m.kind == 1) = false := beq_eq_false_iff_ne.2 (by omega)
      have hb2 : (m.kind == 2) = false := beq_eq_false_iff_ne.2 (by omega)
      have hb3 : (m.kind == 3) = false := beq_eq_false_iff_ne.2 (by omega)
      have hb4 : (m.kind == 4) = true := beq_iff_eq.2 (by omega)
      have hb5 : (m.kind == 5) = false := beq_eq_false_iff_ne.2 (by omega)
      have hb6 : (m.kind == 6) = false := beq_eq_false_iff_ne.2 (by omega)
      clear hs
      go_upto_region 8 with fail
      refine rchk8 w.heap.size m.kind m.from_ m.to_ m.term m.index m.logTerm m.commit m.round m.yes m.done Ae m.entries.length ce Av m.voters.length cv Ad m.data.length cd HB1 (headB m) ?_
      intros
      rename_i w3 hb hx
      subst hx
      subst hb
      cases hr : chkM m
      · have HF := Lib.hid (chkME_no hr)
        rw [hr] at HR
        clear hr
        rw [HR.out]
        go_wp2_with fail
        go_ret
        exact ⟨int_ret HF.out.symm, HX.out⟩
      · have HF := Lib.hid (chkME_yes hr)
        rw [hr] at HR
        clear hr
        rw [HR.out]
        go_wp2_with fail
        go_ret
        exact ⟨int_ret HF.out.symm, HX.out⟩
    · have hb1 : (m.kind == 1) = false := beq_eq_false_iff_ne.2 (by omega)
      have hb2 : (m.kind == 2) = false := beq_eq_false_iff_ne.2 (by omega)
      have hb3 : (m.kind == 3) = false := beq_eq_false_iff_ne.2 (by omega)
      have hb4 : (m.kind == 4) = false := beq_eq_false_iff_ne.2 (by omega)
      have hb5 : (m.kind == 5) = false := beq_eq_false_iff_ne.2 (by omega)
      have hb6 : (m.kind == 6) = true := beq_iff_eq.2 (by omega)
      clear hs
      go_upto_region 8 with fail
      refine rchk8 w.heap.size m.kind m.from_ m.to_ m.term m.index m.logTerm m.commit m.round m.yes m.done Ae m.entries.length ce Av m.voters.length cv Ad m.data.length cd HB1 (headB m) ?_
      intros
      rename_i w3 hb hx
      subst hx
      subst hb
      cases hr : chkM m
      · have HF := Lib.hid (chkME_no hr)
        rw [hr] at HR
        clear hr
        rw [HR.out]
        go_wp2_with fail
        go_ret
        exact ⟨int_ret HF.out.symm, HX.out⟩
      · have HF := Lib.hid (chkME_yes hr)
        rw [hr] at HR
        clear hr
        rw [HR.out]
        go_wp2_with fail
        go_ret
        exact ⟨int_ret HF.out.symm, HX.out⟩
  · by_cases h3 : m.kind = 3
    · have HR := Lib.hid (show ((headB m && decide (m.entries.length ≤ 8) && decide (m.voters.length = 0) && decide (m.data.length = 0) && (decide (0 < m.index) == decide (0 < m.logTerm)) && decide (m.logTerm ≤ m.term) && risesB m.index 0 m.logTerm m.entries) && allT m.term m.entries) = chkM m by rw [← HCR.out]; unfold chkR; rw [if_neg hs, if_pos h3])
      have hb1 : (m.kind == 1) = false := beq_eq_false_iff_ne.2 (by omega)
      have hb2 : (m.kind == 2) = false := beq_eq_false_iff_ne.2 (by omega)
      have hb3 : (m.kind == 3) = true := beq_iff_eq.2 (by omega)
      have hb4 : (m.kind == 4) = false := beq_eq_false_iff_ne.2 (by omega)
      have hb5 : (m.kind == 5) = false := beq_eq_false_iff_ne.2 (by omega)
      have hb6 : (m.kind == 6) = false := beq_eq_false_iff_ne.2 (by omega)
      clear hs h3
      go_upto_region 10 with fail
      refine rchk10 w.heap.size m.kind m.from_ m.to_ m.term m.index m.logTerm m.commit m.round m.yes m.done Ae m.entries.length ce Av m.voters.length cv Ad m.data.length cd HB1 (headB m) (risesB m.index 0 m.logTerm m.entries) (Lib.hid fun hh => ?_) ?_
      · have hb := headB_iff.1 hh
        exact Rises_calls _ _ _ m.entries m.index m.logTerm (by omega) (by omega) (HEs.out.ext HX.out)
      intros
      rename_i w3 hb hx
      rw [← hb] at HR
      have HX1 := Lib.hid hx
      clear hx hb
      have hk10 := cell_blk (blk_ext HB1.out HX1.out) 10
      simp at hk10
      go_wp2_with fail
      go_loopw [3, 131] (fun s3 i wr => ∃ (k : Nat) (g : Bool), k ≤ m.entries.length ∧ i = .int .i64 k ∧ s3 = .bool g ∧ Hid ((g && allT m.term (m.entries.drop k)) = chkM m) ∧ Hid (Ext w1 wr)) (fun _ i _ => m.entries.length - (intOf i).toNat)
      case atStart => exact ⟨0, _, Nat.zero_le _, rfl, rfl, HR, HX1⟩
      case round =>
        clear HX1 HR
        obtain ⟨k, g, hk, rfl, rfl, HQ, HX2⟩ := hrel
        by_cases hlt : k < m.entries.length
        · obtain ⟨ad, Ad2, cd2, hA, hc0, hc1, hc2, _, hie, _⟩ := (HEs.out.ext (HX.out.trans HX2.out)).shape.2.2.2.2.ent hlt
          subst hA
          have hq := HQ.out
          rw [allT_drop m.term m.entries k hlt] at hq
          have HQ' := Lib.hid hq
          clear hq hie HQ
          generalize m.entries[k] = e at hc0 hc1 hc2 HQ'
          obtain ⟨ei, et, ed⟩ := e
          dsimp only at hc0 hc1 hc2 HQ'
          have hc3 := cell_blk (blk_ext HB1.out (HX2.out.alloc (.cells #[.int .i64 ei, .int .i64 et, .slice Ad2 ed.length cd2] 71))) 3
          simp at hc3
          by_cases hle : et ≤ m.term
          · have HQN := Lib.hid (show (g && allT m.term (m.entries.drop (k + 1))) = chkM m by rw [← HQ'.out, decide_eq_true hle]; simp)
            have hdl : decide (et ≤ m.term) = true := decide_eq_true hle
            clear hle HQ'
            cases g
            all_goals
              go_wp2_with fail
              go_roundw
              case rel => exact ⟨k + 1, _, by omega, by go_num, rfl, HQN, Lib.hid (HX2.out.alloc (.cells #[.int .i64 ei, .int .i64 et, .slice Ad2 ed.length cd2] 71))⟩
              case measure => simp [intOf]; omega
          · have HQN := Lib.hid (show (false && allT m.term (m.entries.drop (k + 1))) = chkM m by rw [← HQ'.out, decide_eq_false hle]; simp)
            have hdl : decide (et ≤ m.term) = false := decide_eq_false hle
            clear hle HQ'
            cases g
            all_goals
              go_wp2_with fail
              go_roundw
              case rel => exact ⟨k + 1, false, by omega, by go_num, rfl, HQN, Lib.hid (HX2.out.alloc (.cells #[.int .i64 ei, .int .i64 et, .slice Ad2 ed.length cd2] 71))⟩
              case measure => simp [intOf]; omega
        · obtain rfl : k = m.entries.length := by omega
          have hq := HQ.out
          rw [List.drop_length] at hq
          have HR := Lib.hid (show g = chkM m by rw [← hq]; simp [allT])
          replace HX := Lib.hid (HX.out.trans HX2.out)
          clear hlt hq HQ HX2
          cases hr : chkM m
          · have HF := Lib.hid (chkME_no hr)
            rw [hr] at HR
            clear hr
            rw [HR.out]
            go_wp2_with fail
            go_ret
            exact ⟨int_ret HF.out.symm, HX.out⟩
          · have HF := Lib.hid (chkME_yes hr)
            rw [hr] at HR
            clear hr
            rw [HR.out]
            go_wp2_with fail
            go_ret
            exact ⟨int_ret HF.out.symm, HX.out⟩
    · by_cases h5 : m.kind = 5
      · have HR := Lib.hid (show (headB m && decide (m.entries.length = 0) && decide (m.data.length ≤ 512) && decide (0 < m.index) && decide (0 < m.logTerm) && decide (m.logTerm ≤ m.term) && chk m.voters) = chkM m by rw [← HCR.out]; unfold chkR; rw [if_neg hs, if_neg h3, if_pos h5])
        have hb1 : (m.kind == 1) = false := beq_eq_false_iff_ne.2 (by omega)
        have hb2 : (m.kind == 2) = false := beq_eq_false_iff_ne.2 (by omega)
        have hb3 : (m.kind == 3) = false := beq_eq_false_iff_ne.2 (by omega)
        have hb4 : (m.kind == 4) = false := beq_eq_false_iff_ne.2 (by omega)
        have hb5 : (m.kind == 5) = true := beq_iff_eq.2 (by omega)
        have hb6 : (m.kind == 6) = false := beq_eq_false_iff_ne.2 (by omega)
        clear hs h3 h5
        go_upto_region 17 with fail
        refine rchk17 w.heap.size m.kind m.from_ m.to_ m.term m.index m.logTerm m.commit m.round m.yes m.done Ae m.entries.length ce Av m.voters.length cv Ad m.data.length cd HB1 (headB m) (chk m.voters) (chkE m.voters) (Lib.hid rfl) (Lib.hid (RefCheck_calls _ _ _ m.voters (HVs.out.ext HX.out))) ?_
        intros
        rename_i w3 hb hx
        subst hb
        replace HX := Lib.hid (HX.out.trans hx)
        clear hx
        cases hr : chkM m
        · have HF := Lib.hid (chkME_no hr)
          rw [hr] at HR
          clear hr
          rw [HR.out]
          go_wp2_with fail
          go_ret
          exact ⟨int_ret HF.out.symm, HX.out⟩
        · have HF := Lib.hid (chkME_yes hr)
          rw [hr] at HR
          clear hr
          rw [HR.out]
          go_wp2_with fail
          go_ret
          exact ⟨int_ret HF.out.symm, HX.out⟩
      · have HR := Lib.hid (show false = chkM m by rw [← HCR.out]; unfold chkR; rw [if_neg hs, if_neg h3, if_neg h5])
        have HF := Lib.hid (chkME_no HR.out.symm)
        have hb1 : (m.kind == 1) = false := beq_eq_false_iff_ne.2 (by omega)
        have hb2 : (m.kind == 2) = false := beq_eq_false_iff_ne.2 (by omega)
        have hb3 : (m.kind == 3) = false := beq_eq_false_iff_ne.2 (by omega)
        have hb4 : (m.kind == 4) = false := beq_eq_false_iff_ne.2 (by omega)
        have hb5 : (m.kind == 5) = false := beq_eq_false_iff_ne.2 (by omega)
        have hb6 : (m.kind == 6) = false := beq_eq_false_iff_ne.2 (by omega)
        clear hs h3 h5
        go_wp2_with fail
        go_ret
        exact ⟨int_ret HF.out.symm, HX.out⟩
end Go.Proofs.Ytfflcnlgkbgbhaa
set_option linter.unusedVariables false
set_option linter.unusedSimpArgs false
namespace Go.Proofs.Ytfflcnlgkbgbhaa
open Go.RowKit

/-- A message's numbers as cells. -/
def numsC (m : MsgS) : Array Value := #[.int .i64 m.kind, .int .i64 m.from_, .int .i64 m.to_, .int .i64 m.term, .int .i64 m.index, .int .i64 m.logTerm, .int .i64 m.commit, .int .i64 m.round]
theorem numsC_num (m : MsgS) (k : Nat) (hk : k < 8) : (numsC m)[k]? = some (.int .i64 ((msgNums m)[k]'(by rw [msgNums_len]; exact hk))) := by
  match k, hk with
  | 0, _ => rfl
  | 1, _ => rfl
  | 2, _ => rfl
  | 3, _ => rfl
  | 4, _ => rfl
  | 5, _ => rfl
  | 6, _ => rfl
  | 7, _ => rfl

set_option maxRecDepth 1000000 in
set_option maxHeartbeats 8000000 in
theorem RPut_calls (w : World) (S : Nat → Prop) (v : Value) (m : MsgS) (hm : MsgV w S v m) :
    Calls Try.prog 14 #[v] w fun e w' => ∃ u, e = .returned (.tuple #[u, .int .i64 ((putM m).2 : Int)]) ∧ Ow kByte 5 w' w.heap.size (w.heap.size ≤ ·) u (putM m).1 ∧ Ext w w' := by
  have HM := Lib.hid hm.under
  obtain ⟨Ae, ce, Av, cv, Ad, cd, rfl, he, hv, hd, hi⟩ := hm.under.form
  clear hm
  have HI := Lib.hid hi
  have HEs := Lib.hid he
  have HVs := Lib.hid hv
  have HDs := Lib.hid hd
  obtain ⟨-, hec, hec2, hez, -⟩ := he.shape
  obtain ⟨-, hvc, hvc2, hvz, -⟩ := hv.shape
  obtain ⟨-, hdc, hdc2, hdz, -⟩ := hd.shape
  clear he hv hd hi
  dsimp only [msgC] at HM ⊢
  go_enter Try.func14, Try.ntmps14
  go_wp2_with fail
  have HB1 := Lib.hid (heap_new w _ rfl (.cells (msgC m (.slice Ae m.entries.length ce) (.slice Av m.voters.length cv) (.slice Ad m.data.length cd)) 26))
  refine (RMCheck_calls _ _ _ m (HM.out.ext ((Ext.refl w).alloc (.cells (msgC m (.slice Ae m.entries.length ce) (.slice Av m.voters.length cv) (.slice Ad m.data.length cd)) 26)))).mono ?_
  rintro e w2 ⟨rfl, hx⟩
  have HX2 := Lib.hid (((Ext.refl w).alloc (.cells (msgC m (.slice Ae m.entries.length ce) (.slice Av m.voters.length cv) (.slice Ad m.data.length cd)) 26)).trans hx)
  have HB2 := Lib.hid (blk_ext HB1.out hx)
  clear hx HB1
  cases hck : chkM m
  · have HF := Lib.hid (chkME_no hck)
    have HP := Lib.hid (show putM m = ([], 122) by unfold putM; rw [hck]; rfl)
    clear hck
    rw [HF.out]
    go_wp2_with fail
    go_ret2
    rw [HP.out]
    exact ⟨_, rfl, Ow.nil _ _ _ _ _, HX2.out⟩
  · have HF := Lib.hid (chkME_yes hck)
    have HP := Lib.hid (show putM m = record (encM m) by unfold putM; rw [hck]; rfl)
    have HC := Lib.hid (chkM_iff hck)
    clear hck
    rw [HF.out]
    have h8 : m.entries.length ≤ 8 := HC.out.len
    have h512 : m.data.length ≤ 512 := HC.out.dlen
    have h7 : m.voters.length ≤ 7 := by
      by_cases hk : m.kind = 5
      · exact chk_le7' (HC.out.v5 hk)
      · rw [HC.out.v0 hk]; simp
    have HVI := Lib.hid HVs.out.ints_I64'
    have HG := Lib.hid (heap_new w2 _ rfl (.cells (numsC m) 3))
    have HX3 := Lib.hid ((Ext.refl w2).alloc (.cells (numsC m) 3))
    have hc0 := cell_blk HB2.out 0
    have hc1 := cell_blk HB2.out 1
    have hc2 := cell_blk HB2.out 2
    have hc3 := cell_blk HB2.out 3
    have hc4 := cell_blk HB2.out 4
    have hc5 := cell_blk HB2.out 5
    have hc6 := cell_blk HB2.out 6
    have hc7 := cell_blk HB2.out 7
    simp [msgC] at hc0 hc1 hc2 hc3 hc4 hc5 hc6 hc7
    go_wp2_with fail
    clear hc0 hc1 hc2 hc3 hc4 hc5 hc6 hc7
    go_loopw [4, 32] (fun u i wr => ∃ k : Nat, k ≤ 8 ∧ i = .int .i64 k ∧ Hid (Ow kByte 5 wr w.heap.size (w.heap.size ≤ ·) u (encNums ((msgNums m).take k))) ∧ Hid (Ext w2 wr) ∧ Hid (wr.heap[w2.heap.size]? = some (.cells (numsC m) 3 (0, 0)))) (fun _ i _ => 8 - (intOf i).toNat)
    case atStart => exact ⟨0, by omega, rfl, Lib.hid (Ow.nil _ _ _ _ _), HX3, HG⟩
    case round =>
      clear HX3 HG
      obtain ⟨k, hk, rfl, HO, HX3, HG⟩ := hrel
      by_cases hlt : k < 8
      · have hcm : wr.cell? ⟨w2.heap.size, k, none⟩ = some (.int .i64 ((msgNums m)[k]'(by rw [msgNums_len]; exact hlt))) := (cell_blk HG.out k).trans (numsC_num m k hlt)
        have HXI := Lib.hid (msgNums_I64 HI.out k hlt)
        have HS := Lib.hid (encNums_take_succ (msgNums m) k (by rw [msgNums_len]; exact hlt))
        have HLN := Lib.hid (encNums_len ((msgNums m).take k) (fun n hn => by
          obtain ⟨j, hj, rfl⟩ := List.getElem_of_mem (List.mem_of_mem_take hn)
          exact (msgNums_I64 HI.out j (by rw [msgNums_len] at hj; exact hj)).2))
        generalize (msgNums m)[k]'(by rw [msgNums_len]; exact hlt) = x at hcm HXI HS
        go_wp2_with fail
        refine (RefNumber_calls _ _ _ _ x HO.out.rs HXI.out (by have := HLN.out; rw [List.length_take] at this; omega)).mono ?_
        rintro e w3 ⟨u3, rfl, ho, hx⟩
        have HO3 := Lib.hid (show Ow kByte 5 w3 w.heap.size (w.heap.size ≤ ·) u3 (encNums ((msgNums m).take (k + 1))) from by
          rw [HS.out]
          exact (ho.lower (HX2.out.trans HX3.out).le).mono fun b hb => Nat.le_trans (HX2.out.trans HX3.out).le hb)
        have HX4 := Lib.hid (HX3.out.trans hx)
        have HG4 := Lib.hid (blk_ext HG.out hx)
        clear ho hx
        go_wp2_with fail
        go_roundw
        case rel => exact ⟨k + 1, by omega, by go_num, HO3, HX4, HG4⟩
        case measure => simp [intOf]; omega
      · obtain rfl : k = 8 := by omega
        clear hlt
        have ho0 := HO.out
        rw [List.take_of_length_le (show (msgNums m).length ≤ 8 from Nat.le_refl _)] at ho0
        have HO0 := Lib.hid ho0
        have HB := Lib.hid (blk_ext HB2.out HX3.out)
        have HXA := Lib.hid (HX2.out.trans HX3.out)
        have HLEN := Lib.hid (show (encNums (msgNums m)).length ≤ 72 from by
          have := encNums_len (msgNums m) (fun n hn => by
            obtain ⟨j, hj, rfl⟩ := List.getElem_of_mem hn
            exact (msgNums_I64 HI.out j (by rw [msgNums_len] at hj; exact hj)).2)
          rw [msgNums_len] at this; omega)
        clear ho0 HO HX3 HB2 HX2 HG
        obtain ⟨wb, rfl⟩ : ∃ wb : World, wb = wr := ⟨_, rfl⟩
        have HLD := Lib.hid (show ∀ W, Ext wb W → W.cell? ⟨w.heap.size, 8, none⟩ = some (.bool m.yes) ∧ W.cell? ⟨w.heap.size, 9, none⟩ = some (.bool m.done) from fun W h => ⟨cell_blk (blk_ext HB.out h) 8, cell_blk (blk_ext HB.out h) 9⟩)
        have HL0 := Lib.hid (show (encNums (msgNums m)).length + 9 ≤ 140737488355328 by have := HLEN.out; omega)
        have HL1 := Lib.hid (show (encNums (msgNums m) ++ digs m.yes.toNat).length + 9 ≤ 140737488355328 by
          have := HLEN.out; have := digs_len m.yes.toNat (by cases m.yes <;> decide); rw [List.length_append]; omega)
        go_wp2_with fail
        go_region_held3 (fun W => Ext wb W ∧ W.cell? ⟨w.heap.size, 8, none⟩ = some (.bool m.yes) ∧ W.cell? ⟨w.heap.size, 9, none⟩ = some (.bool m.done))
          (first | exact ⟨(Ext.refl _).drew, HLD.out _ (Ext.refl _).drew⟩ | exact ⟨hk4, HLD.out _ hk4⟩ | exact ⟨hk5, HLD.out _ hk5⟩)
          (first | (go_at_call 50; (with_reducible refine (RefFlag_calls _ _ _ _ m.done HO4.out.rs HL1.out).mono ?_); rintro e w5 ⟨u5, rfl, ho5, he5⟩; have hk5 := hk4.trans he5) | (go_at_call 50; refine (RefFlag_calls _ _ _ _ m.yes HO0.out.rs.drew HL0.out).mono ?_; rintro e w4 ⟨u4, rfl, ho4, he4⟩; have HO4 := Lib.hid ho4; have hk4 := (Ext.refl wb).drew.trans he4))
        have HO5 := Lib.hid (ho5.down (HXA.out.trans hk4))
        have HX5 := Lib.hid (HXA.out.trans hk5)
        have HB5 := Lib.hid (blk_ext HB.out hk5)
        have HY := Lib.hid (show (encNums (msgNums m) ++ digs m.yes.toNat ++ digs m.done.toNat).length ≤ 100 by
          have := HLEN.out; have := digs_len m.yes.toNat (by cases m.yes <;> decide); have := digs_len m.done.toNat (by cases m.done <;> decide); simp only [List.length_append]; omega)
        clear ho4 he4 HO4 hk4 ho5 he5 hk5 HXA HB HO0 HLD HL0 HL1
        obtain ⟨B1, hB1⟩ : ∃ B1, B1 = encNums (msgNums m) ++ digs m.yes.toNat ++ digs m.done.toNat := ⟨_, rfl⟩
        rw [← hB1] at HO5 HY
        have HB1 := Lib.hid hB1
        clear hB1
        have hc10 := cell_blk HB5.out 10
        simp [msgC] at hc10
        go_wp2_with fail
        refine (RefNumber_calls _ _ _ _ (m.entries.length : Int) HO5.out.rs ⟨by omega, by omega⟩ (by have := HY.out; omega)).mono ?_
        rintro e w6 ⟨u6, rfl, ho, hx⟩
        rw [Int.toNat_natCast] at ho
        have HO6 := Lib.hid (ho.down HX5.out)
        have HX6 := Lib.hid (HX5.out.trans hx)
        have HB6 := Lib.hid (blk_ext HB5.out hx)
        have HY6 := Lib.hid (show (B1 ++ digs m.entries.length).length ≤ 200 by have := HY.out; have := digs_len m.entries.length (by omega); rw [List.length_append]; omega)
        clear ho hx HO5 HX5 HB5 hc10 HY
        obtain ⟨B2, hB2⟩ : ∃ B2, B2 = B1 ++ digs m.entries.length := ⟨_, rfl⟩
        rw [← hB2] at HO6 HY6
        have HB2' := Lib.hid hB2
        clear hB2
        have hc10 := cell_blk HB6.out 10
        simp [msgC] at hc10
        go_wp2_with fail
        go_loopw [4, 55] (fun u i wr => ∃ k : Nat, k ≤ m.entries.length ∧ i = .int .i64 k ∧ Hid (Ow kByte 5 wr w.heap.size (w.heap.size ≤ ·) u (B2 ++ encEnts (m.entries.take k))) ∧ Hid (Ext w6 wr)) (fun _ i _ => m.entries.length - (intOf i).toNat)
        case atStart => exact ⟨0, by omega, rfl, Lib.hid (by simp only [List.take_zero, encEnts, List.append_nil]; exact HO6.out), Lib.hid (Ext.refl _)⟩
        case round =>
          clear HO6
          obtain ⟨k, hk, rfl, HO, HXr⟩ := hrel
          by_cases hlt : k < m.entries.length
          · obtain ⟨ad, Ad2, cd2, hA, hq0, hq1, hq2, hdr, _, hte⟩ := (HEs.out.ext (HX6.out.trans HXr.out)).shape.2.2.2.2.ent hlt
            subst hA
            have hem := entsB_mem HC.out.ents m.entries[k] (List.getElem_mem _)
            have HTE := Lib.hid hte
            have HDR := Lib.hid hdr
            have HS := Lib.hid (encEnts_take_succ m.entries k hlt)
            have HLN := Lib.hid (encEnts_len (m.entries.take k) (fun e he => by
              have h1 := entsB_mem HC.out.ents e (List.mem_of_mem_take he)
              have h2 := (headB_iff.1 HC.out.head)
              exact ⟨by omega, h1.2.2.2.2⟩))
            have HLE := Lib.hid (show (B2 ++ encEnts (m.entries.take k)).length ≤ 40000 from by
              have h1 := HY6.out; have h2 := HLN.out; rw [List.length_take] at h2; rw [List.length_append]; omega)
            obtain ⟨-, -, -, -, hdl⟩ := hem
            clear hdr hte HLN
            generalize m.entries[k] = e at hq0 hq1 hq2 HTE HDR HS hdl
            obtain ⟨ei, et, ed⟩ := e
            dsimp only at hq0 hq1 hq2 HTE HDR HS hdl
            go_wp2_with fail
            obtain ⟨wa, hwa⟩ : ∃ wa, wa = wr.alloc (.cells #[.int .i64 ei, .int .i64 et, .slice Ad2 ed.length cd2] 71) := ⟨_, rfl⟩
            have HQb := Lib.hid (show wa.heap[wr.heap.size]? = some (.cells #[.int .i64 ei, .int .i64 et, .slice Ad2 ed.length cd2] 71 (0, 0)) by rw [hwa]; exact heap_new wr _ rfl _)
            have HXa := Lib.hid (show Ext wr wa by rw [hwa]; exact (Ext.refl wr).alloc _)
            rw [← hwa]
            clear hwa hq0 hq1 hq2
            have HO0 := Lib.hid (HO.out.ext HXa.out)
            have HLD := Lib.hid (show ∀ W, Ext wa W → W.cell? ⟨wr.heap.size, 1, none⟩ = some (.int .i64 et) ∧ W.cell? ⟨wr.heap.size, 2, none⟩ = some (.slice Ad2 ed.length cd2) ∧ (convert 24 9 (.slice Ad2 ed.length cd2)).run Try.prog W = .ok (.string ⟨ed.toArray⟩) W from fun W h => ⟨cell_blk (blk_ext HQb.out h) 1, cell_blk (blk_ext HQb.out h) 2, ((HDR.out.ext HXa.out).ext h).to_string (P := Try.prog) Try.underlying24 tByte tString⟩)
            have HL0 := Lib.hid (show (B2 ++ encEnts (m.entries.take k)).length + 9 ≤ 140737488355328 by have := HLE.out; omega)
            have HL1 := Lib.hid (show (B2 ++ encEnts (m.entries.take k) ++ digs et.toNat).length + 9 + (⟨ed.toArray⟩ : ByteArray).size ≤ 140737488355328 by
              have h1 := HLE.out; have h2 := digs_len et.toNat (by have := HTE.out.2; omega)
              have h3 : (⟨ed.toArray⟩ : ByteArray).size = ed.length := by simp [ByteArray.size]
              rw [List.length_append, h3]; omega)
            go_region_held3 (fun W => Ext wa W ∧ W.cell? ⟨wr.heap.size, 1, none⟩ = some (.int .i64 et) ∧ W.cell? ⟨wr.heap.size, 2, none⟩ = some (.slice Ad2 ed.length cd2) ∧ (convert 24 9 (.slice Ad2 ed.length cd2)).run Try.prog W = .ok (.string ⟨ed.toArray⟩) W)
              (first | exact ⟨(Ext.refl _).drew, HLD.out _ (Ext.refl _).drew⟩ | exact ⟨hk4, HLD.out _ hk4⟩ | exact ⟨hk5, HLD.out _ hk5⟩)
              (first | (go_at_call 51; refine (RefText_calls _ _ _ _ ⟨ed.toArray⟩ HO4.out.rs HL1.out).mono ?_; rintro e w5 ⟨u5, rfl, ho5, he5⟩; have hk5 := hk4.trans he5) | (go_at_call 49; refine (RefNumber_calls _ _ _ _ et HO0.out.rs.drew HTE.out HL0.out).mono ?_; rintro e w4 ⟨u4, rfl, ho4, he4⟩; have HO4 := Lib.hid ho4; have hk4 := (Ext.refl wa).drew.trans he4))
            have hsz : (⟨ed.toArray⟩ : ByteArray).size = ed.length := by simp [ByteArray.size]
            have hdt : (⟨ed.toArray⟩ : ByteArray).data.toList = ed := by simp
            (try rw [hsz] at ho5)
            (try rw [hdt] at ho5)
            have HOn := Lib.hid (show Ow kByte 5 w5 w.heap.size (w.heap.size ≤ ·) u5 (B2 ++ encEnts (m.entries.take (k + 1))) from by
              have h := ho5.down ((HX6.out.trans HXr.out).trans (HXa.out.trans hk4))
              rw [HS.out]
              simpa only [List.append_assoc] using h)
            have HXn := Lib.hid (HXr.out.trans (HXa.out.trans hk5))
            clear ho4 he4 HO4 hk4 ho5 he5 hk5 hsz hdt HLD HL0 HL1 HO0 HQb HXa HO HXr HDR
            go_wp2_with fail
            go_roundw
            case rel => exact ⟨k + 1, by omega, by go_num, HOn, HXn⟩
            case measure => simp [intOf]; omega
          · obtain rfl : k = m.entries.length := by omega
            rw [List.take_length] at HO
            have HX7 := Lib.hid (HX6.out.trans HXr.out)
            have HB7 := Lib.hid (blk_ext HB6.out HXr.out)
            have HLE := Lib.hid (show (B2 ++ encEnts m.entries).length ≤ 40000 from by
              have h1 := HY6.out
              have h2 := encEnts_len m.entries (fun e he => by
                have h1 := entsB_mem HC.out.ents e he
                have h2 := (headB_iff.1 HC.out.head)
                exact ⟨by omega, h1.2.2.2.2⟩)
              rw [List.length_append]; omega)
            clear hlt hc10 HX6 HB6 HXr HY6
            obtain ⟨wc, rfl⟩ : ∃ wc : World, wc = wr := ⟨_, rfl⟩
            obtain ⟨B3, hB3⟩ : ∃ B3, B3 = B2 ++ encEnts m.entries := ⟨_, rfl⟩
            rw [← hB3] at HO HLE
            have HB3' := Lib.hid hB3
            clear hB3
            have hc11 := cell_blk HB7.out 11
            simp [msgC] at hc11
            go_wp2_with fail
            refine (RefNumber_calls _ _ _ _ (m.voters.length : Int) HO.out.rs ⟨by omega, by omega⟩ (by have := HLE.out; omega)).mono ?_
            rintro e w8 ⟨u8, rfl, ho, hx⟩
            rw [Int.toNat_natCast] at ho
            have HO8 := Lib.hid (ho.down HX7.out)
            have HX8 := Lib.hid (HX7.out.trans hx)
            have HB8 := Lib.hid (blk_ext HB7.out hx)
            have HY8 := Lib.hid (show (B3 ++ digs m.voters.length).length ≤ 41000 by have := HLE.out; have := digs_len m.voters.length (by omega); rw [List.length_append]; omega)
            clear ho hx HO HX7 HB7 hc11 HLE
            obtain ⟨B4, hB4⟩ : ∃ B4, B4 = B3 ++ digs m.voters.length := ⟨_, rfl⟩
            rw [← hB4] at HO8 HY8
            have HB4' := Lib.hid hB4
            clear hB4
            have hc11 := cell_blk HB8.out 11
            simp [msgC] at hc11
            go_wp2_with fail
            go_loopw [4, 76] (fun u i wr => ∃ k : Nat, k ≤ m.voters.length ∧ i = .int .i64 k ∧ Hid (Ow kByte 5 wr w.heap.size (w.heap.size ≤ ·) u (B4 ++ encNums (m.voters.take k))) ∧ Hid (Ext w8 wr)) (fun _ i _ => m.voters.length - (intOf i).toNat)
            case atStart => exact ⟨0, by omega, rfl, Lib.hid (by simp only [List.take_zero, encNums, List.append_nil]; exact HO8.out), Lib.hid (Ext.refl _)⟩
            case round =>
              clear HO8
              obtain ⟨k, hk, rfl, HO, HXr⟩ := hrel
              have HLE := Lib.hid (show (B4 ++ encNums (m.voters.take k)).length ≤ 42000 from by
                have h1 := HY8.out
                have h2 := encNums_len (m.voters.take k) (fun n hn => (HVI.out n (List.mem_of_mem_take hn)).2)
                rw [List.length_take] at h2; rw [List.length_append]; omega)
              by_cases hlt : k < m.voters.length
              · obtain ⟨ad, hA, hq0, hxi⟩ := (HVs.out.ext (HX8.out.trans HXr.out)).shape.2.2.2.2.int hlt
                subst hA
                have HXI := Lib.hid hxi
                have HS := Lib.hid (encNums_take_succ m.voters k hlt)
                clear hxi
                generalize m.voters[k] = x at hq0 HXI HS
                go_wp2_with fail
                refine (RefNumber_calls _ _ _ _ x HO.out.rs HXI.out (by have := HLE.out; omega)).mono ?_
                rintro e w9 ⟨u9, rfl, ho, hx⟩
                have HOn := Lib.hid (show Ow kByte 5 w9 w.heap.size (w.heap.size ≤ ·) u9 (B4 ++ encNums (m.voters.take (k + 1))) from by
                  have h := ho.down (HX8.out.trans HXr.out)
                  rw [HS.out, ← List.append_assoc]
                  exact h)
                have HXn := Lib.hid (HXr.out.trans hx)
                clear ho hx
                go_wp2_with fail
                go_roundw
                case rel => exact ⟨k + 1, by omega, by go_num, HOn, HXn⟩
                case measure => simp [intOf]; omega
              · obtain rfl : k = m.voters.length := by omega
                rw [List.take_length] at HO HLE
                have HX9 := Lib.hid (HX8.out.trans HXr.out)
                have HB9 := Lib.hid (blk_ext HB8.out HXr.out)
                have hc12 := cell_blk HB9.out 12
                simp [msgC] at hc12
                have hcv := (HDs.out.ext HX9.out).to_string (P := Try.prog) Try.underlying24 tByte tString
                have HSZ := Lib.hid (show (⟨m.data.toArray⟩ : ByteArray).size = m.data.length by simp [ByteArray.size])
                clear hlt hc11 HX8 HB8 HXr HY8
                go_wp2_with fail
                refine (RefText_calls _ _ _ _ ⟨m.data.toArray⟩ HO.out.rs (by have := HLE.out; rw [HSZ.out]; omega)).mono ?_
                rintro e wx ⟨ux, rfl, ho, hx⟩
                have hdt : (⟨m.data.toArray⟩ : ByteArray).data.toList = m.data := by simp
                (try rw [HSZ.out] at ho)
                (try rw [hdt] at ho)
                have HEN := Lib.hid (show B4 ++ encNums m.voters ++ digs m.data.length ++ m.data = encM m by
                  rw [HB4'.out, HB3'.out, HB2'.out, HB1.out]; unfold encM; simp only [List.append_assoc])
                rw [HEN.out] at ho
                have HOx := Lib.hid ho.rs
                have HXx := Lib.hid (HX9.out.trans hx)
                clear ho hx hdt hcv hc12
                go_wp2_with fail
                refine (RefRecord_calls _ _ _ (encM m) HOx.out).mono ?_
                rintro e wy ⟨uy, rfl, ho, hx⟩
                have HOy := Lib.hid (ho.down HXx.out)
                have HXy := Lib.hid (HXx.out.trans hx)
                clear ho hx
                go_wp2_with fail
                go_ret2
                rw [HP.out]
                exact ⟨_, rfl, HOy.out, HXy.out⟩
end Go.Proofs.Ytfflcnlgkbgbhaa
set_option linter.unusedVariables false
set_option linter.unusedSimpArgs false
namespace Go.Proofs.Ytfflcnlgkbgbhaa
open Go.RowKit

/-- The reference's test and the document's. -/
theorem pick_same (b : List UInt8) (n k : Nat) (hb : b[0]? = some (byt 93)) (hr : rd (b.drop 1) = (n, k, 0)) (hl : 1 + k + n + 4 ≤ b.length) :
    (rcd ((b.drop (1 + k)).take n) = b.take (1 + k + n + 4)) = ((b.drop (1 + k + n)).take 4 = be4 (crc (b.take (1 + k + n)))) := by
  have hf := rd_form (b.drop 1) (by rw [hr])
  have hfl := rd_form_len (b.drop 1) (by rw [hr])
  rw [hr] at hf hfl
  simp only at hf hfl
  have hm : ((b.drop (1 + k)).take n).length = n := by rw [List.length_take, List.length_drop]; omega
  have hbody : b.take (1 + k + n) = body ((b.drop (1 + k)).take n) := by
    unfold body
    rw [hm, ← hf]
    match b, hb with
    | x :: l, hb =>
      simp only [List.getElem?_cons_zero, Option.some.injEq] at hb
      subst hb
      rw [show 1 + k + n = (k + n) + 1 by omega, List.take_succ_cons, List.drop_succ_cons, List.drop_zero, show 1 + k = k + 1 by omega, List.drop_succ_cons, ← List.take_add]
  have hsplit : b.take (1 + k + n + 4) = b.take (1 + k + n) ++ (b.drop (1 + k + n)).take 4 := List.take_add
  unfold rcd
  rw [hsplit, hbody]
  apply propext
  constructor
  · intro h; exact (List.append_cancel_left h).symm
  · intro h; rw [h]

set_option maxRecDepth 100000 in
set_option maxHeartbeats 4000000 in
theorem RefPick_calls (w : World) (S : Nat → Prop) (v : Value) (b : List UInt8) (hr : Rs kByte w S v b) :
    Calls Try.prog 56 #[v] w fun e w' => ∃ u, e = .returned (.tuple #[u, .int .i64 ((pick b).2.1 : Int), .int .i64 ((pick b).2.2 : Int)]) ∧ Ow kByte 5 w' w.heap.size (w.heap.size ≤ ·) u (pick b).1 ∧ Ext w w' := by
  have HR := Lib.hid hr
  obtain ⟨A, c, rfl, hl, hc, hz, hrow⟩ := hr
  by_cases h0 : b.length = 0
  · have hx : pick b = ([], 0, 2) := by unfold pick; rw [if_pos h0]
    rw [hx]
    clear hx hrow
    have h0' : ((b.length : Int) == 0) = true := beq_iff_eq.2 (by omega)
    go_enter Try.func56, Try.ntmps56
    go_wp2_with fail
    go_ret3
    exact ⟨_, rfl, Ow.nil _ _ _ _ _, Ext.refl _⟩
  obtain ⟨ad, rfl, hcell⟩ := hrow.byte (j := 0) (by omega)
  rw [add_zero_addr] at hcell
  clear hrow
  have hlp : (0 : Int) < (b.length : Int) := by omega
  by_cases h93 : b[0]? ≠ some (byt 93)
  · have hx : pick b = ([], 0, 10) := by unfold pick; rw [if_neg h0, if_pos h93]
    rw [hx]
    have hne : ((b[0].toNat : Int) != 93) = true := by
      rw [bne_iff_ne]
      intro e
      apply h93
      rw [List.getElem?_eq_getElem (by omega)]
      congr 1
      apply UInt8.toNat.inj
      rw [byt_toNat]; omega
    clear hx h93
    go_enter Try.func56, Try.ntmps56
    go_wp2_with fail
    go_ret3
    exact ⟨_, rfl, Ow.nil _ _ _ _ _, Ext.refl _⟩
  have h93' : b[0]? = some (byt 93) := Classical.not_not.1 h93
  have hb0 : (b[0].toNat : Int) = 93 := by
    rw [List.getElem?_eq_getElem (by omega)] at h93'
    injection h93' with h93'
    rw [h93', byt_toNat]; rfl
  rw [hb0] at hcell
  have hx : pick b = if (rd (b.drop 1)).2.2 ≠ 0 then ([], 0, (rd (b.drop 1)).2.2) else
      if 65536 < (rd (b.drop 1)).1 then ([], 0, 4) else
      if b.length < 1 + (rd (b.drop 1)).2.1 + (rd (b.drop 1)).1 + 4 then ([], 0, 2) else
      if (b.drop (1 + (rd (b.drop 1)).2.1 + (rd (b.drop 1)).1)).take 4 ≠ be4 (crc (b.take (1 + (rd (b.drop 1)).2.1 + (rd (b.drop 1)).1))) then ([], 0, 11) else
      ((b.drop (1 + (rd (b.drop 1)).2.1)).take (rd (b.drop 1)).1, 1 + (rd (b.drop 1)).2.1 + (rd (b.drop 1)).1 + 4, 0) := by
    unfold pick; rw [if_neg h0, if_neg h93]
  have hbd := rd_bd (b.drop 1)
  rw [List.length_drop] at hbd
  have HRD := Lib.hid (rfl : rd (b.drop 1) = rd (b.drop 1))
  generalize hrr : rd (b.drop 1) = r at hbd hx
  obtain ⟨n, k, e⟩ := r
  simp only at hbd hx
  have HX := Lib.hid hx
  have HRR := Lib.hid hrr
  obtain ⟨hn, hk, hz0, he10⟩ := hbd
  have H0 := Lib.hid h0
  have H93 := Lib.hid h93'
  clear hx hz0 h0 h93 hb0 hrr h93' HRD
  have hrest := HR.out.from_ (l := 1) rfl (by omega)
  have hs1 := slice_from tBytes (some ad) b.length c .i64 1 1 rfl (by omega)
  rw [partV_eq] at hrest
  simp only [partV_eq] at hs1
  have HREST := Lib.hid hrest
  clear hrest
  go_enter Try.func56, Try.ntmps56
  go_wp2_with fail
  refine (Read_calls w S _ (b.drop 1) HREST.out).mono ?_
  rw [HRR.out]
  rintro e1 w1 ⟨rfl, rfl⟩
  by_cases h1 : e ≠ 0
  · have HX2 := Lib.hid (show pick b = ([], 0, e) by rw [HX.out, if_pos h1])
    have h1' : ((e : Int) != 0) = true := by rw [bne_iff_ne]; omega
    go_wp2_with fail
    go_ret3
    rw [HX2.out]
    exact ⟨_, rfl, Ow.nil _ _ _ _ _, Ext.refl _⟩
  have h1' : e = 0 := Classical.not_not.1 h1
  subst h1'
  clear h1
  by_cases h2 : 65536 < n
  · have HX2 := Lib.hid (show pick b = ([], 0, 4) by rw [HX.out, if_neg (by simp), if_pos h2])
    have h2' : (65536 : Int) < (n : Int) := by omega
    go_wp2_with fail
    go_ret3
    rw [HX2.out]
    exact ⟨_, rfl, Ow.nil _ _ _ _ _, Ext.refl _⟩
  have h2' : (n : Int) ≤ 65536 := by omega
  by_cases h3 : b.length < 1 + k + n + 4
  · have HX2 := Lib.hid (show pick b = ([], 0, 2) by rw [HX.out, if_neg (by simp), if_neg h2, if_pos h3])
    have h3' : (b.length : Int) - 1 - (k : Int) - 4 < (n : Int) := by omega
    go_wp2_with fail
    go_ret3
    rw [HX2.out]
    exact ⟨_, rfl, Ow.nil _ _ _ _ _, Ext.refl _⟩
  have h3' : (n : Int) ≤ (b.length : Int) - 1 - (k : Int) - 4 := by omega
  have hsm := pick_same b n k H93.out HRR.out (by omega)
  have hx : pick b = if rcd ((b.drop (1 + k)).take n) = b.take (1 + k + n + 4) then ((b.drop (1 + k)).take n, 1 + k + n + 4, 0) else ([], 0, 11) := by
    rw [HX.out, if_neg (by simp), if_neg h2, if_neg h3]
    by_cases h5 : (b.drop (1 + k + n)).take 4 = be4 (crc (b.take (1 + k + n)))
    · rw [if_neg (fun h => h h5), if_pos (by rw [hsm]; exact h5)]
    · rw [if_pos h5, if_neg (by rw [hsm]; exact h5)]
  have HPX := Lib.hid hx
  have hlm : ((b.drop (1 + k)).take n).length = n := by rw [List.length_take, List.length_drop]; omega
  have hrc : record ((b.drop (1 + k)).take n) = (rcd ((b.drop (1 + k)).take n), 0) := by unfold record; rw [if_neg (by omega)]
  have HREC := Lib.hid hrc
  have HLM := Lib.hid hlm
  have hrB := HR.out.part (l := 1 + k) (h := 1 + k + n) rfl (by omega) (by omega)
  have hsB := slice_of tBytes (some ad) b.length c .i64 .i64 (1 + (k : Int)) (1 + (k : Int) + (n : Int)) (1 + k) (1 + k + n) rfl rfl (by omega) (by omega)
  have hrC := HR.out.to_ (h := 1 + k + n + 4) rfl (by omega)
  have hsC := slice_to tBytes (some ad) b.length c .i64 ((n : Int) + (k : Int) + 5) (1 + k + n + 4) (by omega) (by omega)
  simp only [partV_eq, Nat.add_sub_cancel_left, Nat.sub_zero] at hsB hrB hsC hrC
  have HRB := Lib.hid hrB
  have HRC := Lib.hid hrC
  have HH3 := Lib.hid h3
  clear hx hlm hrc hsm hrB hrC HX h2 h3
  go_wp2_with (at_builtin; refine wpList_append_Rs kByte rfl (.tmp 38) (.tmp 46) 24 5 rfl tBytes w.heap.size _ _ [] ((b.drop (1 + k)).take n) (w.heap.size ≤ ·) S rfl rfl (Ow.slit (xs := []) (heap_alloc_new _ _) (Nat.le_refl _) (Nat.le_refl _) (by simp) (by simp)) ?cr (fun _ _ h => h) ?cn ?cb ?cz ?_)
  case cr => exact HRB.out.alloc _
  case cn => intro b hb; simp at hb; omega
  case cb => simp; omega
  case cz => simp
  intro v2 w2 ho hg _
  have HO := Lib.hid ho
  have HE := Lib.hid (((Ext.refl w).alloc _).grown hg (fun k hk => by simp [Value.ownBlock] at hk; omega))
  clear ho hg
  go_wp2_with fail
  refine (RefRecord_calls _ _ _ _ HO.out.rs).mono ?_
  rw [HREC.out]
  rintro e w3 ⟨u, rfl, ho, he⟩
  have HE3 := Lib.hid (HE.out.trans he)
  have HO3 := Lib.hid (HO.out.ext he)
  have hcvX : ∀ a : Nat, (convert 24 9 u).run Try.prog (w3.drewN a) = .ok (.string ⟨(rcd ((b.drop (1 + k)).take n)).toArray⟩) (w3.drewN a) := fun a => (ho.rs.drewN a).to_string Try.underlying24 tByte tString
  have hcvB : ∀ a : Nat, (convert 24 9 (.slice (restA (some ad) c 0) (1 + k + n + 4) c)).run Try.prog (w3.drewN a) = .ok (.string ⟨(b.take (1 + k + n + 4)).toArray⟩) (w3.drewN a) := fun a => ((HRC.out.ext HE3.out).drewN a).to_string Try.underlying24 tByte tString
  clear ho he
  go_wp2_with fail
  have hwr1 : IntKind.i64.wrap ((n : Int) + (k : Int)) = (n : Int) + (k : Int) := IntWalk.i64_in _ (by omega)
  have hwr2 : IntKind.i64.wrap ((n : Int) + (k : Int) + 5) = (n : Int) + (k : Int) + 5 := IntWalk.i64_in _ (by omega)
  have hb5 : (n : Int) + (k : Int) + 5 = ((1 + k + n + 4 : Nat) : Int) := by omega
  have HB5 := Lib.hid hb5
  clear hb5
  generalize hX : rcd ((b.drop (1 + k)).take n) = X at hcvX HPX
  generalize hY : b.take (1 + k + n + 4) = Y at hcvB HPX
  clear hX hY
  by_cases hXY : X = Y
  · have hbe : (X == Y) = true := by rw [hXY]; exact beq_self_eq_true Y
    have HPK := Lib.hid (show pick b = ((b.drop (1 + k)).take n, 1 + k + n + 4, 0) by rw [HPX.out, if_pos hXY])
    clear hXY
    go_quiet (fail)
    go_wp2
    go_ret3
    rw [HPK.out]
    refine ⟨_, ?_, HO3.out.drewN _, HE3.out.drewN _⟩
    show Ending.returned (.tuple #[v2, .int .i64 ((n : Int) + (k : Int) + 5), .int .i64 0]) = _
    rw [HB5.out]
    rfl
  · have hbe : (X == Y) = false := beq_eq_false_iff_ne.2 hXY
    have HPK := Lib.hid (show pick b = ([], 0, 11) by rw [HPX.out, if_neg hXY])
    clear hXY
    go_quiet (fail)
    go_wp2
    go_ret3
    rw [HPK.out]
    exact ⟨_, rfl, Ow.nil _ _ _ _ _, HE3.out.drewN _⟩
end Go.Proofs.Ytfflcnlgkbgbhaa
set_option linter.unusedVariables false
set_option linter.unusedSimpArgs false
namespace Go.Proofs.Ytfflcnlgkbgbhaa
open Go.RowKit

/-- X is the reference's scan at r. -/
structure RscP (X : World → ScS → Prop) (C : Nat → Prop) (r : Nat) : Prop where
  sc : ∀ W s, X W s → ∃ B, Rc W r B s ∧ ∀ W' s', Rc W' r B s' → X W' s'
  up : ∀ W W' : World, Upd (one r) W W' → Upd C W W'
section
variable {w : World} {C : Nat → Prop} {X : World → ScS → Prop} {pm rr cb : Nat} {SE SV : Nat → Prop} {W W' : World} {cs : Array Value} {ve : Value} {es : List EntS} {vv : Value} {vs : List Int} {s s' : ScS} {r : Nat}
theorem RscP.number (Z : RscP X C r) (L : Lay w C X pm rr SE SV) (h : RdW w cb X pm rr SE SV W cs ve es vv vs s) {n : Nat} (e : s.number = (n, s')) :
    Calls Try.prog 57 #[.pointer (some ⟨r, 0, none⟩)] W fun u w' => u = .returned (.int .i64 (n : Int)) ∧ RdW w cb X pm rr SE SV w' cs ve es vv vs s' ∧ Upd C W w' := by
  obtain ⟨B, hs, hb⟩ := Z.sc _ _ h.sc
  have := RcNumber_calls W r B s hs
  rw [e] at this
  exact this.mono fun r w' ⟨h1, h2, h3⟩ => ⟨h1, h.call L (Z.up _ _ h3) (hb _ _ h2), Z.up _ _ h3⟩
theorem RscP.flag (Z : RscP X C r) (L : Lay w C X pm rr SE SV) (h : RdW w cb X pm rr SE SV W cs ve es vv vs s) {n : Bool} (e : s.flag = (n, s')) :
    Calls Try.prog 58 #[.pointer (some ⟨r, 0, none⟩)] W fun u w' => u = .returned (.bool n) ∧ RdW w cb X pm rr SE SV w' cs ve es vv vs s' ∧ Upd C W w' := by
  obtain ⟨B, hs, hb⟩ := Z.sc _ _ h.sc
  have := RcFlag_calls W r B s hs
  rw [e] at this
  exact this.mono fun r w' ⟨h1, h2, h3⟩ => ⟨h1, h.call L (Z.up _ _ h3) (hb _ _ h2), Z.up _ _ h3⟩
theorem RscP.text (Z : RscP X C r) (L : Lay w C X pm rr SE SV) (h : RdW w cb X pm rr SE SV W cs ve es vv vs s) {most : Int} {t : List UInt8} (e : s.text most = (t, s')) :
    Calls Try.prog 59 #[.pointer (some ⟨r, 0, none⟩), .int .i64 most] W fun u w' => u = .returned (.string ⟨t.toArray⟩) ∧ RdW w cb X pm rr SE SV w' cs ve es vv vs s' ∧ Upd C W w' := by
  obtain ⟨B, hs, hb⟩ := Z.sc _ _ h.sc
  have := RcText_calls W r B s hs most
  rw [e] at this
  exact this.mono fun r w' ⟨h1, h2, h3⟩ => ⟨h1, h.call L (Z.up _ _ h3) (hb _ _ h2), Z.up _ _ h3⟩
theorem RscP.ok (Z : RscP X C r) (h : RdW w cb X pm rr SE SV W cs ve es vv vs s) : s.ok := by
  obtain ⟨B, hs, _⟩ := Z.sc _ _ h.sc
  exact hs.ok_
theorem RdW.mono {SE' : Nat → Prop} (h : RdW w cb X pm rr SE SV W cs ve es vv vs s) (hS : ∀ b, SE b → SE' b) : RdW w cb X pm rr SE' SV W cs ve es vv vs s := ⟨h.msg, h.res, h.sc, h.ent.mono hS, h.vot, h.ext, h.big⟩
theorem RdW.cut (h : RdW w cb X pm rr SE SV W cs ve es vv vs s) : RdW w cb X pm rr (fun b => SE b ∧ b < W.heap.size) SV W cs ve es vv vs s := ⟨h.msg, h.res, h.sc, h.ent.bound, h.vot, h.ext, h.big⟩
theorem Lay.sub (L : Lay w C X pm rr SE SV) {SE' : Nat → Prop} (hS : ∀ b, SE' b → SE b) : Lay w C X pm rr SE' SV := ⟨L.pmw, L.rrw, L.ne, L.cw, fun b h => L.ew b (hS b h), L.vw, fun b h => L.ev b (hS b h), L.keep⟩
/-- A store elsewhere. -/
theorem RdW.setX (L : Lay w C X pm rr SE SV) (h : RdW w cb X pm rr SE SV W cs ve es vv vs s) {g : Nat} (hw : w.heap.size ≤ g) (hp : g ≠ pm) (hr : g ≠ rr) (hC : ¬ C g) (hE : ¬ SE g) (hV : ¬ SV g) (k : Nat) (v : Value) :
    RdW w cb X pm rr SE SV (W.setCell ⟨g, k, none⟩ v) cs ve es vv vs s :=
  ⟨(heap_setCell_other W ⟨g, k, none⟩ pm v (Ne.symm hp)).trans h.msg, (heap_setCell_other W ⟨g, k, none⟩ rr v (Ne.symm hr)).trans h.res,
    L.keep h.sc fun b hb hc => heap_setCell_other W ⟨g, k, none⟩ b v (fun e => by
      have e' : b = g := e
      subst e'
      rcases hc with hc | hc
      · omega
      · exact hC hc),
    h.ent.seti hE v, h.vot.seti hV v, h.ext.seti hw v, by simpa [World.setCell] using h.big⟩
/-- One entry more, in a list of operations. -/
theorem list_app_ent {ops : Array Oper} {o : Oper} {rest : List Oper} {a : Act} {Q : Exit → Act → World → Prop} (ss sy : Nat) (hgd : o.guard = none)
    (ho : o.op = .call { callee := .builtin .append, args := #[.tmp ss, .tmp sy], argTypes := #[22, 22] }) {c1 : Nat} (i n : Int) (vd : Value) (d : List UInt8) (T : Nat → Prop)
    (hi : I64 i) (hn : I64 n) (hl : es.length ≤ 9) (hT : ∀ b, T b → c1 ≤ b ∧ some b ≠ ve.ownBlock) (hTW : T W.heap.size) (hd : Rs kByte W T vd d)
    (L : Lay w C X pm rr (c1 ≤ ·) SV) (h1 : RdW w c1 X pm rr (c1 ≤ ·) SV W cs ve es vv vs s)
    (hs : a.eval (.tmp ss) = ve) (hx : a.eval (.tmp sy) = .slice (some ⟨W.heap.size, 0, none⟩) 1 1)
    (h : ∀ v' w', RdW w c1 X pm rr (c1 ≤ ·) SV w' cs v' (es ++ [⟨i, n, d⟩]) vv vs s → wpList Try.prog ops Q rest (a.put o.dst v') w') :
    wpList Try.prog ops Q (o :: rest) a (W.alloc (.cells #[.int .i64 i, .int .i64 n, vd] 71)) := by
  have hc := h1.big
  have h2 := h1.ext_ L ((Ext.refl W).alloc (.cells #[.int .i64 i, .int .i64 n, vd] 71))
  refine wpList_append_Rs kEnt hgd (.tmp ss) (.tmp sy) 22 71 ho tEnts w.heap.size ve (.slice (some ⟨W.heap.size, 0, none⟩) 1 1) es [⟨i, n, d⟩] (c1 ≤ ·) T hs hx h2.ent (Rs.one_ent (heap_alloc_new W _) hTW (hd.alloc _) hi hn)
    (fun y cs hy => kEnt.mono (fun b hb => hT b hb) hy) (fun b hb => ?_) (by simp; omega) ?_ (fun v' w' ho hg _ => h v' w' (h2.growE L ho hg))
  · simp at hb
    show c1 ≤ b
    omega
  · exact h2.ext.le
end

/-! ### the lists -/
theorem rdEntsR_stop {ix : Int} {c k : Nat} {s : ScS} (hk : k ≤ 9) (h : ¬ (k < c ∧ k < 9)) : rdEnts false ix c (9 - k) k s = ([], s) := by
  rcases Nat.eq_zero_or_pos (9 - k) with h0 | h0
  · rw [h0]; rfl
  · obtain ⟨f, hf⟩ : ∃ f, 9 - k = f + 1 := ⟨8 - k, by omega⟩
    rw [hf]; unfold rdEnts
    rw [if_neg (fun hc => h ⟨hc.1, by omega⟩)]
theorem rdEntsR_more {ix : Int} {c k n : Nat} {t : List UInt8} {s s1 s2 : ScS} (h : k < c ∧ k < 9) (q1 : s.number = (n, s1)) (q2 : s1.text 4096 = (t, s2)) :
    rdEnts false ix c (9 - k) k s = (⟨entIx ix k, (n : Int), t⟩ :: (rdEnts false ix c (9 - (k + 1)) (k + 1) s2).1, (rdEnts false ix c (9 - (k + 1)) (k + 1) s2).2) := by
  obtain ⟨f, hf⟩ : ∃ f, 9 - k = f + 1 := ⟨8 - k, by omega⟩
  rw [hf]
  conv => lhs; unfold rdEnts
  rw [if_pos ⟨h.1, fun e => by cases e⟩, q1]
  simp only [q2]
  rw [show 9 - (k + 1) = f by omega]
theorem rdNumsR_stop {c k : Nat} {s : ScS} (hk : k ≤ 9) (h : ¬ (k < c ∧ k < 9)) : rdNums false c (9 - k) k s = ([], s) := by
  rcases Nat.eq_zero_or_pos (9 - k) with h0 | h0
  · rw [h0]; rfl
  · obtain ⟨f, hf⟩ : ∃ f, 9 - k = f + 1 := ⟨8 - k, by omega⟩
    rw [hf]; unfold rdNums
    rw [if_neg (fun hc => h ⟨hc.1, by omega⟩)]
theorem rdNumsR_more {c k n : Nat} {s s1 : ScS} (h : k < c ∧ k < 9) (q1 : s.number = (n, s1)) :
    rdNums false c (9 - k) k s = ((n : Int) :: (rdNums false c (9 - (k + 1)) (k + 1) s1).1, (rdNums false c (9 - (k + 1)) (k + 1) s1).2) := by
  obtain ⟨f, hf⟩ : ∃ f, 9 - k = f + 1 := ⟨8 - k, by omega⟩
  rw [hf]
  conv => lhs; unfold rdNums
  rw [if_pos ⟨h.1, fun e => by cases e⟩, q1]
  simp only
  rw [show 9 - (k + 1) = f by omega]
end Go.Proofs.Ytfflcnlgkbgbhaa
