/-
  Texts of this claim, put together: MsgChk, MsgNum, Step, Join, Number, Texts, Bytes, RefNum, Sum, RefSum, Record.
-/
import Derived.Test.YtfflcnlgkbgbhaaZ5
import Derived.StillTailTactics
import Derived.Test.YtfflcnlgkbgbhaaZ1
import Derived.Deep.RegionLaw
import Derived.Test.YtfflcnlgkbgbhaaZ2
set_option linter.unusedVariables false
set_option linter.unusedSimpArgs false
namespace Go.Proofs.Ytfflcnlgkbgbhaa
open Go.RowKit

theorem kindF_eq (m : MsgS) : kindB m = kindF m.kind (headB m) m.index m.logTerm m.term (chk m.voters) := rfl
theorem headF_eq (m : MsgS) : headB m = headF m.from_ m.to_ m.term m.index m.logTerm m.commit m.round := rfl
theorem entB_eq (T i t : Int) (e : EntS) : entB T i t e = entF T i t e.index e.term e.data.length := rfl
theorem emptyB_head {m : MsgS} (h : emptyB m = true) : headB m = true := by
  have h1 : kindB m = true := by
    unfold emptyB lenB at h
    simp only [Bool.and_eq_true] at h
    exact h.1.1.1.1.1
  unfold kindB at h1
  split at h1
  · exact h1
  · split at h1
    · simp only [Bool.and_eq_true] at h1; exact h1.1.1
    · split at h1
      · simp only [Bool.and_eq_true] at h1; exact h1.1.1.1.1
      · cases h1

set_option maxRecDepth 1000000 in
set_option maxHeartbeats 8000000 in
theorem MCheck_calls (w : World) (S : Nat → Prop) (v : Value) (m : MsgS) (hm : MsgV w S v m) :
    Calls Try.prog 42 #[v] w fun e w' => e = .returned (.int .i64 (chkME m)) ∧ Ext w w' := by
  obtain ⟨Ae, ce, Av, cv, Ad, cd, rfl, he, hv, hd, hi⟩ := hm.under.form
  clear hm
  have HI := Lib.hid hi
  have HEs := Lib.hid he
  have HVs := Lib.hid hv
  obtain ⟨-, hec, hec2, hez, -⟩ := he.shape
  clear he hv hd hi
  dsimp only [msgC]
  go_enter Try.func42, Try.ntmps42
  go_upto_region 1 with fail
  obtain ⟨w1, hw1⟩ : ∃ w1, w1 = w.alloc (.cells #[.int .i64 m.kind, .int .i64 m.from_, .int .i64 m.to_, .int .i64 m.term, .int .i64 m.index, .int .i64 m.logTerm, .int .i64 m.commit, .int .i64 m.round, .bool m.yes, .bool m.done, .slice Ae m.entries.length ce, .slice Av m.voters.length cv, .slice Ad m.data.length cd] 26) := ⟨_, rfl⟩
  have HB1 := Lib.hid (show w1.heap[w.heap.size]? = some (.cells #[.int .i64 m.kind, .int .i64 m.from_, .int .i64 m.to_, .int .i64 m.term, .int .i64 m.index, .int .i64 m.logTerm, .int .i64 m.commit, .int .i64 m.round, .bool m.yes, .bool m.done, .slice Ae m.entries.length ce, .slice Av m.voters.length cv, .slice Ad m.data.length cd] 26 (0, 0)) by rw [hw1]; exact heap_new w _ rfl _)
  have HE1 := Lib.hid (show Ext w w1 by rw [hw1]; exact (Ext.refl w).alloc _)
  rw [← hw1]
  clear hw1
  have HL := Lib.hid (show ∀ x ∈ [m.term, m.index, m.logTerm, m.commit, m.round], I64 x from by
    have h := HI.out
    intro x hx
    simp only [List.mem_cons, List.not_mem_nil, or_false] at hx
    rcases hx with rfl | rfl | rfl | rfl | rfl
    · exact h.term
    · exact h.index
    · exact h.logTerm
    · exact h.commit
    · exact h.round)
  refine chkA w.heap.size m.kind m.from_ m.to_ m.term m.index m.logTerm m.commit m.round m.yes m.done Ae m.entries.length ce Av m.voters.length cv Ad m.data.length cd HB1 HL ?_
  intros
  rename_i w2 hx
  have HX2 := Lib.hid hx
  have HB2 := Lib.hid (blk_ext HB1.out hx)
  clear hx
  rw [← headF_eq]
  have hk0 := cell_blk HB2.out 0
  simp at hk0
  go_upto_block 0 with fail
  refine chkB w.heap.size m.kind m.from_ m.to_ m.term m.index m.logTerm m.commit m.round m.yes m.done Ae m.entries.length ce Av m.voters.length cv Ad m.data.length cd HB2 (headB m) (chk m.voters) (chkE m.voters) (Lib.hid rfl) (Lib.hid (Check_calls _ _ _ m.voters (HVs.out.ext (HE1.out.trans HX2.out)))) ?_
  intros
  rename_i w3 hx
  subst hx
  rw [← kindF_eq]
  go_upto_region 15 with fail
  refine chkC w.heap.size m.kind m.from_ m.to_ m.term m.index m.logTerm m.commit m.round m.yes m.done Ae m.entries.length ce Av m.voters.length cv Ad m.data.length cd HB2 (kindB m) ?_
  intros
  rename_i w3 hx
  subst hx
  go_upto_region 16 with fail
  refine chkD w.heap.size m.kind m.from_ m.to_ m.term m.index m.logTerm m.commit m.round m.yes m.done Ae m.entries.length ce Av m.voters.length cv Ad m.data.length cd HB2 (kindB m && decide (m.entries.length ≤ 8) && decide (m.data.length ≤ 512)) (decide (m.kind = 3)) (decide (m.kind = 5)) ?_
  intros
  rename_i w3 hx
  subst hx
  have HEM := Lib.hid (show emptyB m = (kindB m && decide (m.entries.length ≤ 8) && decide (m.data.length ≤ 512) && (decide (m.kind = 3) || decide (m.entries.length = 0)) && (decide (m.kind = 5) || decide (m.voters.length = 0)) && (decide (m.kind = 5) || decide (m.data.length = 0))) from rfl)
  rw [← HEM.out]
  have hk4 := cell_blk HB2.out 4
  have hk5 := cell_blk HB2.out 5
  have hk10 := cell_blk HB2.out 10
  simp at hk4 hk5 hk10
  go_wp2_with fail
  go_quiet (fail)
  have HE3 := Lib.hid (HE1.out.trans (HX2.out.drewN nq))
  have HXd := Lib.hid (HX2.out.drewN nq)
  obtain ⟨w4, hw4⟩ : ∃ w4, w4 = w2.drewN nq := ⟨_, rfl⟩
  rw [← hw4] at HE3 HXd ⊢
  have HB4 := Lib.hid (blk_ext HB1.out HXd.out)
  have hk10' := cell_blk HB4.out 10
  simp at hk10'
  clear hw4 hk0 hk4 hk5 hk10 HB2 HX2
  go_wp2_with fail
  go_loopw [3, 7, 8, 145] (fun s3 s7 s8 i wr => ∃ (k : Nat) (g : Bool) (ix t : Int), k ≤ m.entries.length ∧ i = .int .i64 k ∧ s3 = .bool g ∧ s7 = .int .i64 ix ∧ s8 = .int .i64 t ∧ Hid ((g && entsB m.term ix t (m.entries.drop k)) = chkM m) ∧ Hid (g = true → 0 ≤ ix ∧ ix ≤ 1099511627776) ∧ Hid (Ext w1 wr)) (fun _ _ _ i _ => m.entries.length - (intOf i).toNat)
  case atStart =>
    exact ⟨0, emptyB m, m.index, m.logTerm, Nat.zero_le _, rfl, rfl, rfl, rfl, Lib.hid rfl, Lib.hid (fun h => by have := headB_iff.1 (emptyB_head h); omega), HXd⟩
  case round =>
    clear HXd HE3 HB4
    obtain ⟨k, g, ix, t, hk, rfl, rfl, rfl, rfl, HQ, HG, HX⟩ := hrel
    by_cases hlt : k < m.entries.length
    · obtain ⟨ad, Ad2, cd2, hA, hc0, hc1, hc2, _, hie, _⟩ := (HEs.out.ext (HE1.out.trans HX.out)).shape.2.2.2.2.ent hlt
      subst hA
      have HIE := Lib.hid hie
      have hd := List.drop_eq_getElem_cons hlt
      have hq := HQ.out
      rw [hd, entsB] at hq
      have HQ' := Lib.hid hq
      clear hd hq hie HQ
      generalize m.entries[k] = e at hc0 hc1 hc2 HIE HQ'
      obtain ⟨ei, et, ed⟩ := e
      dsimp only at hc0 hc1 hc2 HIE HQ'
      have HBr := Lib.hid (blk_ext HB1.out HX.out)
      go_upto_region 21 with fail
      obtain ⟨wa, hwa⟩ : ∃ wa, wa = wr.alloc (.cells #[.int .i64 ei, .int .i64 et, .slice Ad2 ed.length cd2] 71) := ⟨_, rfl⟩
      have HQb := Lib.hid (show wa.heap[wr.heap.size]? = some (.cells #[.int .i64 ei, .int .i64 et, .slice Ad2 ed.length cd2] 71 (0, 0)) by rw [hwa]; exact heap_new wr _ rfl _)
      have HXa := Lib.hid (show Ext w1 wa by rw [hwa]; exact HX.out.alloc _)
      rw [← hwa]
      clear hwa hc0 hc1 hc2 HX HBr
      have HBa := Lib.hid (blk_ext HB1.out HXa.out)
      refine chkP w.heap.size m.kind m.from_ m.to_ m.term m.index m.logTerm m.commit m.round m.yes m.done (some ad) m.entries.length ce Av m.voters.length cv Ad m.data.length cd HBa g ix t ei et wr.heap.size Ad2 ed.length cd2 HQb HIE HG ?_
      intros
      rename_i w5 hx
      have HX5 := Lib.hid (HXa.out.trans hx)
      have HQ5 := Lib.hid (blk_ext HQb.out hx)
      clear hx HQb HXa HBa
      have hq0 := cell_blk HQ5.out 0
      have hq1 := cell_blk HQ5.out 1
      simp at hq0 hq1
      have HQN := Lib.hid (show ((g && entF m.term ix t ei et ed.length) && entsB m.term ei et (m.entries.drop (k + 1))) = chkM m by rw [Bool.and_assoc]; exact HQ'.out)
      have HGN := Lib.hid (show (g && entF m.term ix t ei et ed.length) = true → 0 ≤ ei ∧ ei ≤ 1099511627776 from fun h => by
        unfold entF inB at h
        simp only [Bool.and_eq_true, decide_eq_true_eq] at h
        exact h.2.1.1.1.2)
      clear HQ' HG
      generalize (g && entF m.term ix t ei et ed.length) = g2 at HQN HGN ⊢
      go_wp2_with fail
      go_quiet (fail)
      go_wp2_with fail
      go_roundw
      case rel => exact ⟨k + 1, g2, ei, et, by omega, by go_num, rfl, rfl, rfl, HQN, HGN, Lib.hid (HX5.out.drewN _)⟩
      case measure => simp [intOf]; omega
    · obtain rfl : k = m.entries.length := by omega
      have hq := HQ.out
      rw [List.drop_length] at hq
      have hq' : g = chkM m := by rw [← hq]; simp [entsB]
      have HFN := Lib.hid (HE1.out.trans HX.out)
      clear hlt hq HQ HG HX
      cases g
      · have HF := Lib.hid (chkME_no hq'.symm)
        clear hq'
        go_wp2_with fail
        go_ret
        exact ⟨int_ret HF.out.symm, HFN.out⟩
      · have HF := Lib.hid (chkME_yes hq'.symm)
        clear hq'
        go_wp2_with fail
        go_ret
        exact ⟨int_ret HF.out.symm, HFN.out⟩
end Go.Proofs.Ytfflcnlgkbgbhaa
set_option linter.unusedVariables false
set_option linter.unusedSimpArgs false
namespace Go.Proofs.Ytfflcnlgkbgbhaa
open Go.RowKit

/-- Pointers to the first cells of a block. -/
def ptrs (p n : Nat) : Array Value := ((List.range n).map fun i => Value.pointer (some ⟨p, i, none⟩)).toArray
theorem ptrs_at (p n k : Nat) (h : k < n) : (ptrs p n)[k]? = some (.pointer (some ⟨p, k, none⟩)) := by
  unfold ptrs; simp [h]

set_option maxRecDepth 100000 in
set_option maxHeartbeats 4000000 in
theorem numbers_calls (w : World) (p : Nat) :
    Calls Try.prog 43 #[.pointer (some ⟨p, 0, none⟩)] w fun e w' => ∃ g, e = .returned (.slice (some ⟨g, 0, none⟩) 8 8) ∧ w.heap.size ≤ g ∧ w'.heap[g]? = some (.cells (ptrs p 8) 78 (0, 0)) ∧ Ext w w' := by
  go_enter Try.func43, Try.ntmps43
  go_wp2_with fail
  go_still_tail 24, (by kernel_rfl)
  change wpList _ _ _ _ _ w.drew
  have HE := Lib.hid ((Ext.refl w).drew.alloc (.cells (ptrs p 8) 78))
  have HB := Lib.hid (heap_new w.drew _ rfl (.cells (ptrs p 8) 78))
  have hsz : w.drew.heap.size = w.heap.size := rfl
  go_wp2_with fail
  go_ret
  exact ⟨_, rfl, Nat.le_refl _, HB.out, HE.out⟩
end Go.Proofs.Ytfflcnlgkbgbhaa
set_option linter.unusedVariables false
set_option linter.unusedSimpArgs false
namespace Go.Proofs.Ytfflcnlgkbgbhaa
open Go.RowKit

theorem step_append_Rs {P : Program} {ops : Array Oper} {o : Oper} {a : Act} {w : World} {K : Act → World → Prop} {Q : Exit → Act → World → Prop} {E : Prop} {α : Type} (d : Kd α) (D : Nat) (hD : o.dst = some D) (hgd : o.guard = none) (s y : Operand) (t e : TypeId) {z : Value} {bytes : Nat}
    (ho : o.op = .call { callee := .builtin .append, args := #[s, y], argTypes := #[t, t] }) (hE : ElemT P t e z d.sz bytes)
    (base : Nat) (v x : Value) (xs ys : List α) (S T : Nat → Prop) (hs : a.eval s = v) (hx : a.eval y = x) (hown : Ow d e w base S v xs) (hr : Rs d w T x ys)
    (hST : ∀ y cs, d.K w T y cs → d.K w (fun b => S b ∧ some b ≠ v.ownBlock) y cs) (hnew : ∀ b, w.heap.size ≤ b → S b)
    (hbytes : (xs.length + ys.length) * bytes ≤ 140737488355328) (hbase : base ≤ w.heap.size)
    (h : ∀ v' w', Ow d e w' base S v' (xs ++ ys) → w.grownBy w' v.ownBlock → (v'.ownBlock = v.ownBlock ∨ v'.ownBlock = some w.heap.size) → K (a.put (some D) v') w') :
    if Region.wanted o (yielded ops a.tmps) = true then Oper.wp P o a w K Q else E := by
  have hw : Region.wanted o (yielded ops a.tmps) = true := by simp [Region.wanted, hgd]
  rw [if_pos hw]
  obtain ⟨i, hi, hz0, hz1, hz2⟩ := info_parts hE.info
  obtain ⟨v', w', hr, h2, h3, h4⟩ := run_append_Rs (P := P) (w := w) (d := d) base t o.type e i z bytes hE.under hi hz0 hz1 hz2 hE.cells hE.pos v x xs ys S T hown hr hST hnew hbytes hE.pos' hbase
  unfold Oper.wp execOp
  simp only [ho, resolve, invoke, builtin, Sem.run_bind, Sem.run_pure, Result.andThen_ok, List.map_toArray, List.map_cons, List.map_nil, hs, hx, hr]
  show K (a.put o.dst v') w'
  rw [hD]
  exact h v' w' h2 h3 h4
end Go.Proofs.Ytfflcnlgkbgbhaa
set_option linter.unusedVariables false
set_option linter.unusedSimpArgs false
namespace Go.Proofs.Ytfflcnlgkbgbhaa
open Go.RowKit

theorem flat_take_succ {α : Type} (ls : List (List α)) (k : Nat) (hk : k < ls.length) : (ls.take (k + 1)).flatten = (ls.take k).flatten ++ ls[k] := by
  rw [List.take_succ_eq_append_getElem hk, List.flatten_append]; simp
theorem flat_take_le {α : Type} (ls : List (List α)) (k : Nat) : (ls.take k).flatten.length ≤ ls.flatten.length := by
  conv => rhs; rw [← List.take_append_drop k ls, List.flatten_append, List.length_append]
  omega

/-- How many there are in all. -/
def flen {α : Type} (ls : List (List α)) : Nat := ls.flatten.length
theorem flen_succ {α : Type} (ls : List (List α)) (k : Nat) (hk : k < ls.length) : flen (ls.take (k + 1)) = flen (ls.take k) + ls[k].length := by
  unfold flen; rw [flat_take_succ ls k hk, List.length_append]

set_option maxHeartbeats 400000 in
theorem Join_calls (w : World) (S : Nat → Prop) (v : Value) (ls : List (List UInt8)) (hr : Rs (kSlice kByte) w S v ls) (hsz : flen ls ≤ 140737488355328) :
    Calls Try.prog 67 #[v] w fun e w' => ∃ u, e = .returned u ∧ Ow kByte 5 w' w.heap.size (w.heap.size ≤ ·) u ls.flatten ∧ Ext w w' := by
  obtain ⟨A, c, rfl, hl, hc, hzl, hrow⟩ := hr.under
  have HR := Lib.hid hrow
  clear hrow hr
  have hmk : ∀ W : World, (Instr.makeSlice 24 (.int .i64 0) (.int .i64 (flen ls : Int))).run Try.prog W = .ok (.slice (some ⟨W.heap.size, 0, none⟩) 0 (flen ls)) (W.alloc (.cells (madeCells #[.int .u8 0] (flen ls)) 5)) := fun W => by
    obtain ⟨i, hi, hz0, hz1, hz2⟩ := info_parts tBytes.info
    have h := run_make (P := Try.prog) W 24 5 i (.int .u8 0) tBytes.under hi hz0 .i64 .i64 0 (flen ls : Int) (by omega) (by omega) (by rw [hz2]; omega) (by omega)
    simpa [hz1, Value.cells] using h
  have Hmk := Lib.hid hmk
  clear hmk
  go_enter Try.func67, Try.ntmps67
  go_wp2
  go_loop [3, 11] (fun n i => ∃ k : Nat, k ≤ ls.length ∧ i = .int .i64 k ∧ n = .int .i64 (flen (ls.take k) : Int)) (fun _ i => ls.length - (intOf i).toNat)
  case atStart => exact ⟨0, Nat.zero_le _, rfl, rfl⟩
  case round =>
    obtain ⟨k, hk, rfl, rfl⟩ := hrel
    by_cases hlt : k < ls.length
    · obtain ⟨ad, u, rfl, hcell, hu⟩ := HR.out.slice hlt
      obtain ⟨A1, c1, rfl, hl1, hc1, hz1, hrow1⟩ := hu
      have h1 : flen (ls.take (k + 1)) ≤ flen ls := flat_take_le ls (k + 1)
      have h2 := flen_succ ls k hlt
      have H2 := Lib.hid h2
      have h3 : flen (ls.take k) + ls[k].length ≤ 140737488355328 := by omega
      clear hrow1 h1 h2
      go_wp2
      go_round
      case rel => exact ⟨k + 1, by omega, by go_num, by rw [H2.out]; go_num⟩
      case measure => simp [intOf]; omega
    · obtain rfl : k = ls.length := by omega
      rw [List.take_length]
      clear hlt
      have hmk := Hmk.out
      go_wp2
      go_loopw [6, 24] (fun u i wr => ∃ k : Nat, k ≤ ls.length ∧ i = .int .i64 k ∧ Hid (Ow kByte 5 wr w.heap.size (w.heap.size ≤ ·) u (ls.take k).flatten) ∧ Hid (Ext w wr)) (fun _ i _ => ls.length - (intOf i).toNat)
      case atStart => 
        refine ⟨0, Nat.zero_le _, rfl, ?_, Lib.hid ((Ext.refl w).alloc _)⟩
        refine Lib.hid ⟨fun k hk => by simp [Value.ownBlock] at hk; omega, by simp, [], World.ownsRow_made w _ (flen ls) (Nat.le_refl _) (by simp only [maxLen]; omega) (by simp [size_madeCells, kByte, Kd.scalar]), fun j x hj => by simp at hj⟩
      case round =>
        obtain ⟨k, hk, rfl, HO, HE⟩ := hrel
        by_cases hlt : k < ls.length
        · have hrow2 := HR.out.keep (w' := wr) fun b hb _ => HE.out.block b hb
          obtain ⟨ad, u, rfl, hcell, hu⟩ := hrow2.slice hlt
          have HU := Lib.hid hu
          have h1 : flen (ls.take (k + 1)) ≤ flen ls := flat_take_le ls (k + 1)
          have h2 := flen_succ ls k hlt
          have h3 : flen (ls.take k) + ls[k].length ≤ 140737488355328 := by omega
          have H3 := Lib.hid h3
          clear h1 h2 h3 hrow2 hu
          have HS := Lib.hid (flat_take_succ ls k hlt)
          go_wp2_with (at_builtin; refine wpList_append_Rs kByte rfl (.tmp 28) (.tmp 29) 24 5 rfl tBytes w.heap.size _ _ _ _ _ _ rfl rfl HO.out HU.out ?c1 ?c2 ?c3 HE.out.le ?_)
          case c1 => exact fun _ _ h => h
          case c2 => intro b hb; have := HE.out.le; omega
          case c3 => have := H3.out; unfold flen at this; omega
          intro v' w' ho hg hat
          have HO' := Lib.hid ho
          have HE' := Lib.hid (HE.out.grown hg HO.out.from_)
          rw [← HS.out] at HO'
          clear ho hg hat HO HE
          go_wp2
          go_roundw
          case rel => exact ⟨k + 1, by omega, by go_num, HO', HE'⟩
          case measure => simp [intOf]; omega
        · obtain rfl : k = ls.length := by omega
          rw [List.take_length] at HO
          clear hlt
          go_wp2
          go_ret
          exact ⟨_, rfl, HO.out, HE.out⟩
end Go.Proofs.Ytfflcnlgkbgbhaa
set_option linter.unusedVariables false
set_option linter.unusedSimpArgs false
namespace Go.Proofs.Ytfflcnlgkbgbhaa
open Go.RowKit

/-- The array of a number's groups: what is not written yet, and what is. -/
def grp (i : Nat) (acc : List UInt8) : Array Value := (List.replicate i (Value.int .u8 0) ++ acc.map encB).toArray
theorem grp_set (i : Nat) (b : UInt8) (acc : List UInt8) : (grp (i + 1) acc).setIfInBounds i (encB b) = grp i (b :: acc) := by
  unfold grp
  rw [List.setIfInBounds_toArray, List.set_append_left _ _ (by simp), List.replicate_succ', List.set_append_right _ _ (by simp)]
  simp
theorem grp_at (i : Nat) (acc : List UInt8) (j : Nat) (x : UInt8) (h : acc[j]? = some x) : (grp i acc)[i + j]? = some (.int .u8 (x.toNat : Int)) := by
  unfold grp
  rw [List.getElem?_toArray, List.getElem?_append_right (by simp)]
  simp [h, encB]

theorem bv_i64 (a : Nat) (ha : a < 9223372036854775808) : (BitVec.ofInt 64 (a : Int)).toNat = a := by
  rw [BitVec.ofInt_natCast, BitVec.toNat_ofNat]; exact Nat.mod_eq_of_lt (by omega)
theorem and127 (m : Nat) (h : m < 9223372036854775808) : bits .and .i64 (m : Int) 127 = ((m % 128 : Nat) : Int) := by
  have hx : m &&& 127 = m % 128 := by
    rw [show (127 : Nat) = 2 ^ 7 - 1 from rfl, Nat.and_two_pow_sub_one_eq_mod]
  show IntKind.i64.wrap ((BitVec.ofInt 64 (m : Int) &&& BitVec.ofInt 64 ((127 : Nat) : Int)).toNat : Int) = _
  rw [BitVec.toNat_and, bv_i64 m h, bv_i64 127 (by omega), hx, IntKind.wrap_i64]
  omega
theorem or128 (m : Nat) (h : m < 128) : bits .or .u8 (m : Int) 128 = ((128 + m : Nat) : Int) := by
  have : ∀ k : Fin 128, bits .or .u8 (k.val : Int) 128 = ((128 + k.val : Nat) : Int) := by decide +kernel
  exact this ⟨m, h⟩
theorem low_cell (m : Nat) (h : m < 9223372036854775808) : Value.int .u8 (bits .and .i64 (m : Int) 127 % 256) = encB (byt (m % 128)) := by
  rw [and127 m h, encB, byt_toNat]
  congr 1

theorem high_cell (m : Nat) (h : m < 9223372036854775808) : Value.int .u8 (bits .or .u8 (bits .and .i64 (m : Int) 127 % 256) 128) = encB (byt (128 + m % 128)) := by
  rw [and127 m h, encB, byt_toNat, show ((m % 128 : Nat) : Int) % 256 = ((m % 128 : Nat) : Int) by omega, or128 _ (by omega)]
  congr 1
  omega

theorem arr9 : Try.prog.underlying 103 = some (.array 9 5) := by kernel_rfl
theorem slice_arr (P : Program) (t e n : Nat) (info : TypeInfo) (ht : P.underlying t = some (.array n e)) (hi : P.info? e = some info) (h1 : info.size = 1) (g i : Nat) (hin : i < n) (W : World) :
    (Instr.sliceAt t (.pointer (some ⟨g, 0, none⟩)) (some (.int .i64 (i : Int))) none none).run P W = .ok (.slice (some ⟨g, i, none⟩) (n - i) (n - i)) W := by
  have hb : (Instr.sliceBound (.int .i64 (i : Int)) n .sliceB).run P W = .ok i W := by
    have := @run_sliceBound P W .i64 (i : Int) n .sliceB (by omega) (by omega)
    simpa using this
  have hne : ¬ n = i := by omega
  simp [Instr.sliceAt, Instr.sureAddr, run_underlying ht, Instr.sliceBounds, hb, sizeOf, typeInfo, hi, h1, hne, add_lit0]

set_option maxHeartbeats 400000 in
theorem Number_nat (w : World) (S : Nat → Prop) (v : Value) (bs : List UInt8) (n : Nat) (hr : Rs kByte w S v bs) (hn : n ≤ 9223372036854775807) (hsz : bs.length + 9 ≤ 140737488355328) (z : Int) (hz : (n : Int) = max z 0) (hz1 : z ≤ n):
    Calls Try.prog 44 #[v, .int .i64 z] w fun e w' => ∃ u, e = .returned u ∧ Ow kByte 5 w' w.heap.size (w.heap.size ≤ ·) u (bs ++ digs n) ∧ Ext w w' := by
  have HR := Lib.hid hr.under
  clear hr
  obtain ⟨A, c, rfl, hl, hc, hzl, hrow⟩ := HR.out
  clear hrow
  have Hz := Lib.hid hz
  clear hz
  have hmx : (if z < 0 then 0 else z) = (n : Int) := by rw [Hz.out]; split <;> omega
  go_enter Try.func44, Try.ntmps44
  go_wp2
  have hlow := low_cell n (by omega)
  rw [hlow]
  go_loopw [1, 6] (fun x y wr => ∃ (m i : Nat) (acc : List UInt8), x = .int .i64 m ∧ y = .int .i64 i ∧ acc.length + i = 9 ∧ i ≤ 8 ∧ m < 128 ^ i ∧ Hid (hi m ++ acc = digs n) ∧
    Hid (wr.heap[w.heap.size]? = some (.cells (grp i acc) 103 (0, 0))) ∧ Hid (Ext w wr)) (fun x _ _ => (intOf x).toNat)
  case atStart =>
    refine ⟨n / 128, 8, [byt (n % 128)], by go_num, rfl, rfl, by omega, by omega, Lib.hid rfl, Lib.hid ?_, Lib.hid ((Ext.refl w).alloc _)⟩
    exact heap_alloc_new w _
  case round =>
    obtain ⟨m, i, acc, rfl, rfl, hlen, hi8, hm, HA, HB, HE⟩ := hrel
    by_cases hpos : 0 < m
    · obtain ⟨i, rfl⟩ : ∃ i', i = i' + 1 := ⟨i - 1, by
        rcases Nat.eq_zero_or_pos i with h | h
        · subst h; simp at hm; omega
        · omega⟩
      have hm9 : m < 9223372036854775808 := Nat.lt_of_lt_of_le hm (Nat.le_trans (Nat.pow_le_pow_right (by omega) hi8) (by decide))
      have hc : wr.cell? ⟨w.heap.size, i, none⟩ = some (Value.int .u8 0) := by
        rw [cell_blk HB.out]; unfold grp; rw [List.getElem?_toArray, List.getElem?_append_left (by simp)]; simp
      have hf : wr.frozen? ⟨w.heap.size, i, none⟩ = false := frozen_blk HB.out i
      go_wp2
      rw [high_cell m hm9]
      go_roundw
      case rel =>
        refine ⟨m / 128, i, byt (128 + m % 128) :: acc, by go_num, rfl, by simp; omega, by omega, ?_, Lib.hid ?_, Lib.hid ?_, Lib.hid (HE.out.set (Nat.le_refl _) _)⟩
        · rw [Nat.pow_succ] at hm; exact Nat.div_lt_of_lt_mul (by omega)
        · rw [← HA.out, hi_pos m hpos]; simp
        · rw [heap_setCell_same wr _ _ _ _ _ HB.out, grp_set]
      case measure => simp [intOf]; omega
    · obtain rfl : m = 0 := by omega
      clear hpos hm
      have hs : ∀ W : World, (Instr.sliceAt 103 (.pointer (some ⟨w.heap.size, 0, none⟩)) (some (.int .i64 (i : Int))) none none).run Try.prog W = .ok (.slice (some ⟨w.heap.size, i, none⟩) (9 - i) (9 - i)) W := by
        obtain ⟨i0, hi0, _, h1, _⟩ := info_parts tBytes.info
        exact slice_arr _ _ _ 9 i0 arr9 hi0 h1 _ i (by omega)
      go_wp2_with fail
      refine (Join_calls _ (fun _ => True) _ [bs, acc] (Rs.two (heap_alloc_new _ _) trivial ((HR.out.ext (HE.out.alloc _)).mono fun _ _ => trivial) ?_) ?_).mono ?_
      · exact ⟨_, 9 - i, by rw [show 9 - i = acc.length by omega], by omega, by omega, by omega, Row.bytes_of ((Below.heap_alloc _ _ _ (blk_lt HB.out)).trans HB.out) trivial fun j x hj => grp_at i acc j x hj⟩
      · have hlen' : acc.length ≤ 9 := by omega
        simp [flen]; omega
      rintro e w' ⟨u, rfl, ho, he⟩
      have ho' := Lib.hid (Ow.lower (ho.mono (S' := (w.heap.size ≤ ·)) fun b hb => Nat.le_trans (HE.out.alloc _).le hb) (HE.out.alloc _).le)
      have he' := Lib.hid ((HE.out.alloc _).trans he)
      clear ho he
      go_wp2
      go_ret
      have hfl : [bs, acc].flatten = bs ++ digs n := by rw [← HA.out, hi_zero]; simp
      exact ⟨_, rfl, hfl ▸ ho'.out, he'.out⟩

theorem Number_calls (w : World) (S : Nat → Prop) (v : Value) (bs : List UInt8) (z : Int) (hr : Rs kByte w S v bs) (hn : I64 z) (hsz : bs.length + 9 ≤ 140737488355328) :
    Calls Try.prog 44 #[v, .int .i64 z] w fun e w' => ∃ u, e = .returned u ∧ Ow kByte 5 w' w.heap.size (w.heap.size ≤ ·) u (bs ++ digs z.toNat) ∧ Ext w w' := by
  obtain ⟨h0, h1⟩ := hn
  exact Number_nat w S v bs z.toNat hr (by omega) hsz z (by omega) (by omega)
end Go.Proofs.Ytfflcnlgkbgbhaa
set_option linter.unusedVariables false
set_option linter.unusedSimpArgs false
namespace Go.Proofs.Ytfflcnlgkbgbhaa
open Go.RowKit

theorem tString : Try.prog.underlying 9 = some .string := by kernel_rfl
theorem tByte : Try.prog.underlying 5 = some (.int .u8) := by kernel_rfl

set_option maxHeartbeats 400000 in
theorem Text_calls (w : World) (S : Nat → Prop) (v : Value) (bs : List UInt8) (s : ByteArray) (hr : Rs kByte w S v bs) (hsz : bs.length + 9 + s.size ≤ 140737488355328) :
    Calls Try.prog 46 #[v, .string s] w fun e w' => ∃ u, e = .returned u ∧ Ow kByte 5 w' w.heap.size (w.heap.size ≤ ·) u (bs ++ digs s.size ++ s.data.toList) ∧ Ext w w' := by
  have HR := Lib.hid hr
  clear hr
  go_enter Try.func46, Try.ntmps46
  go_wp2_with fail
  refine (Number_calls w S v bs _ HR.out ⟨by omega, by omega⟩ (by omega)).mono ?_
  rintro e w' ⟨u, rfl, ho, he⟩
  have HO := Lib.hid ho
  have HE := Lib.hid he
  have hd := digs_len s.size (by omega)
  clear ho he
  go_wp2_with (at_builtin; refine wpList_append_str rfl (.tmp 8) (.tmp 9) 24 9 5 rfl tBytes tString w.heap.size _ _ _ _ rfl rfl HO.out (fun _ h => h) ?c1 HE.out.le ?_)
  case c1 => simp; omega
  intro v' w2 ho hg
  have HO' := Lib.hid ho
  have HE' := Lib.hid (HE.out.grown hg HO.out.from_)
  clear ho hg
  go_wp2
  go_ret
  refine ⟨_, rfl, ?_, HE'.out⟩
  rw [List.append_assoc]; exact HO'.out

set_option maxHeartbeats 400000 in
theorem Flag_calls (w : World) (S : Nat → Prop) (v : Value) (bs : List UInt8) (b : Bool) (hr : Rs kByte w S v bs) (hsz : bs.length + 9 ≤ 140737488355328) :
    Calls Try.prog 45 #[v, .bool b] w fun e w' => ∃ u, e = .returned u ∧ Ow kByte 5 w' w.heap.size (w.heap.size ≤ ·) u (bs ++ digs b.toNat) ∧ Ext w w' := by
  have HR := Lib.hid hr
  clear hr
  cases b
  all_goals
    go_enter Try.func45, Try.ntmps45
    go_wp2_with fail
    refine (Number_calls w S v bs _ HR.out ⟨by omega, by omega⟩ (by omega)).mono ?_
    rintro e w' ⟨u, rfl, ho, he⟩
    have HO := Lib.hid ho
    have HE := Lib.hid he
    clear ho he
    go_wp2
    go_ret
    exact ⟨_, rfl, HO.out, HE.out⟩
end Go.Proofs.Ytfflcnlgkbgbhaa
set_option linter.unusedVariables false
set_option linter.unusedSimpArgs false
namespace Go.Proofs.Ytfflcnlgkbgbhaa
open Go.RowKit

set_option maxHeartbeats 400000 in
theorem Clone_calls (w : World) (S : Nat → Prop) (v : Value) (bs : List UInt8) (hr : Rs kByte w S v bs) (hsz : bs.length ≤ 140737488355328) :
    Calls Try.prog 17 #[v] w fun e w' => ∃ u, e = .returned u ∧ Ow kByte 5 w' w.heap.size (w.heap.size ≤ ·) u bs ∧ Ext w w' := by
  have HR := Lib.hid hr
  obtain ⟨A, c, rfl, hl, hc, hzl, hrow⟩ := hr
  cases A with
  | none =>
    have : bs = [] := by
      rcases Nat.eq_zero_or_pos bs.length with h0 | h0
      · exact List.eq_nil_of_length_eq_zero h0
      · obtain ⟨ad, h, _⟩ := hrow h0; cases h
    subst this
    clear hrow
    have hq := @Lib.run_eql_slice_nil Try.prog
    go_enter Try.func17, Try.ntmps17
    go_wp2
    go_ret
    exact ⟨_, rfl, Ow.nil _ _ _ _ _, Ext.refl _⟩
  | some ad =>
    clear hrow
    have hq := @Lib.run_eql_slice_nil Try.prog
    go_enter Try.func17, Try.ntmps17
    go_wp2_with (at_builtin; refine wpList_append_Rs kByte rfl (.tmp 5) (.tmp 6) 24 5 rfl tBytes w.heap.size _ _ [] bs (w.heap.size ≤ ·) S rfl rfl ?co (HR.out.alloc _) (fun _ _ h => h) ?cn ?cb ?cz ?_)
    case co => exact Ow.slit (xs := []) (heap_alloc_new _ _) (Nat.le_refl _) (Nat.le_refl _) (by simp) (by simp)
    case cn => intro b hb; simp at hb; omega
    case cb => simpa using hsz
    case cz => simp
    intro v' w2 ho hg _
    have HO := Lib.hid ho
    have HE := Lib.hid (((Ext.refl w).alloc _).grown hg (fun k hk => by simp [Value.ownBlock] at hk; omega))
    clear ho hg
    go_wp2
    go_ret
    exact ⟨_, rfl, HO.out, HE.out⟩

set_option maxHeartbeats 400000 in
theorem Equal_calls (w : World) (S T : Nat → Prop) (v u : Value) (xs ys : List UInt8) (h1 : Rs kByte w S v xs) (h2 : Rs kByte w T u ys) :
    Calls Try.prog 15 #[v, u] w fun e w' => e = .returned (.bool (xs == ys)) ∧ w = w' := by
  have c1 := h1.to_string (P := Try.prog) Try.underlying24 tByte tString
  have c2 := h2.to_string (P := Try.prog) Try.underlying24 tByte tString
  clear h1 h2
  go_enter Try.func15, Try.ntmps15
  go_wp2
  go_ret
  exact ⟨rfl, rfl⟩

theorem Equal_same (w : World) (S T : Nat → Prop) (v u : Value) (xs : List UInt8) (h1 : Rs kByte w S v xs) (h2 : Rs kByte w T u xs) :
    Calls Try.prog 15 #[v, u] w fun e w' => e = .returned (.bool true) ∧ w = w' :=
  (Equal_calls w S T v u xs xs h1 h2).mono fun _ _ ⟨h, k⟩ => ⟨by rw [h]; simp, k⟩
end Go.Proofs.Ytfflcnlgkbgbhaa
set_option linter.unusedVariables false
set_option linter.unusedSimpArgs false
namespace Go.Proofs.Ytfflcnlgkbgbhaa
open Go.RowKit

theorem digs_small (n : Nat) (h : n < 128) : digs n = [byt n] := by
  unfold digs
  rw [show n / 128 = 0 by omega, hi_zero, Nat.mod_eq_of_lt h]; rfl
theorem digs_big (n : Nat) (h : 128 ≤ n) : digs n = hi (n / 128) ++ [byt (n % 128)] := rfl
theorem hi_digs (m : Nat) (h : 0 < m) : hi m = (digs m).set ((digs m).length - 1) (byt (128 + m % 128)) := by
  rw [hi_pos m h]
  unfold digs
  rw [List.length_append, List.length_singleton, List.set_append_right _ _ (by omega)]
  simp

theorem digs_last (m : Nat) : (digs m)[(digs m).length - 1]? = some (byt (m % 128)) := by
  unfold digs
  rw [List.length_append, List.length_singleton, List.getElem?_append_right (by omega)]
  simp
theorem digs_pos (m : Nat) : 0 < (digs m).length := by unfold digs; simp

set_option maxHeartbeats 400000 in
theorem Digits_small (n : Int) (w : World) (hlt : n < 128) (hn : I64 n) :
    Calls Try.prog 73 #[.int .i64 n] w fun e w' => ∃ u, e = .returned u ∧ Ow kByte 5 w' w.heap.size (w.heap.size ≤ ·) u (digs n.toNat) ∧ Ext w w' := by
  obtain ⟨h0, h1⟩ := hn
  obtain ⟨m, hm⟩ : ∃ m : Nat, m = n.toNat := ⟨_, rfl⟩
  rw [← hm]
  have hm1 : m < 128 := by omega
  have hmx : (if n < 0 then 0 else n) = (m : Int) := by split <;> omega
  clear hm
  go_enter Try.func73, Try.ntmps73
  go_wp2_with fail
  go_ret
  refine ⟨_, rfl, ?_, (Ext.refl w).alloc _⟩
  rw [digs_small m hm1]
  refine Ow.slit (xs := [byt m]) ?_ (Nat.le_refl _) (Nat.le_refl _) (by simp) (by simp)
  rw [heap_alloc_new]
  simp [byt_toNat]
  omega

set_option maxHeartbeats 400000 in
theorem Digits_calls (k : Nat) : ∀ (n : Int) (w : World), n.toNat < 128 ^ k → I64 n →
    Calls Try.prog 73 #[.int .i64 n] w fun e w' => ∃ u, e = .returned u ∧ Ow kByte 5 w' w.heap.size (w.heap.size ≤ ·) u (digs n.toNat) ∧ Ext w w' := by
  induction k with
  | zero => exact fun n w hk hn => Digits_small n w (by simp at hk; omega) hn
  | succ k ih =>
    intro n w hk hn
    by_cases hlt : n < 128
    · exact Digits_small n w hlt hn
    have IH := Lib.hid ih
    clear ih
    obtain ⟨h0, h1⟩ := hn
    have hq : (n / 128).toNat < 128 ^ k := by
      have : (n / 128).toNat = n.toNat / 128 := by omega
      rw [this]
      rw [Nat.pow_succ] at hk
      exact Nat.div_lt_of_lt_mul (by omega)
    have HQ := Lib.hid hq
    clear hq hk
    go_enter Try.func73, Try.ntmps73
    go_wp2_with fail
    refine (IH.out (n / 128) _ HQ.out ⟨by omega, by omega⟩).mono ?_
    rintro e w1 ⟨u, rfl, ho, he⟩
    have hD : (digs n.toNat) = hi (n / 128).toNat ++ [byt (n.toNat % 128)] := by
      rw [digs_big _ (by omega)]; congr 2; omega
    rw [hi_digs _ (by omega)] at hD
    have hl := digs_pos (n / 128).toNat
    have hla := digs_last (n / 128).toNat
    have hx : (n / 128).toNat % 128 < 128 := by omega
    have hlen := (digs_len (n / 128).toNat (by omega)).2
    obtain ⟨g, cap, rfl, hb, hg, hcap, _⟩ := ho.form hl
    generalize (n / 128).toNat % 128 = x at hD hla hx
    generalize hds : digs (n / 128).toNat = ds at ho hl hla hD hcap hlen
    have hc : w1.cell? ⟨g, ds.length - 1, none⟩ = some (.int .u8 (x : Int)) := by
      rw [(ho.scell (ds.length - 1) (by omega)).1]
      rw [List.getElem?_eq_getElem (by omega)] at hla
      injection hla with hla
      rw [hla, byt_toNat, Nat.mod_eq_of_lt (by omega)]
    have hf := (ho.scell (ds.length - 1) (by omega)).2
    have HO := Lib.hid ho
    have HE := Lib.hid he
    have HD := Lib.hid hD
    clear ho he hD hla hds HQ
    go_wp2_with (at_builtin; refine wpList_append_Rs kByte rfl (.tmp 21) (.tmp 25) 24 5 rfl tBytes w.heap.size _ _ (ds.set (ds.length - 1) (byt (128 + x))) [byt (n.toNat % 128)] (w.heap.size ≤ ·) (fun _ => True) rfl rfl ?co ?cr (fun _ _ h => h) ?cn ?cb ?cz ?_)
    case co =>
      have h2 := (HO.out.sset (ds.length - 1) (byt (128 + x)) trivial).1.alloc (.cells #[.int .u8 (n % 128)] 5)
      have h3 : Value.int .u8 ((x : Int) + 128) = encB (byt (128 + x)) := by rw [← byteval _ (by omega)]; congr 1; omega
      rw [h3]
      exact h2
    case cr =>
      have h3 : Value.int .u8 (n % 128) = encB (byt (n.toNat % 128)) := by rw [← byteval _ (by omega)]; congr 1; omega
      rw [h3]
      exact Rs.one_byte _ _ _ (by simp) _
    case cn => intro b hb; simp at hb; have := HE.out.le; omega
    case cb => simp; omega
    case cz => have := HE.out.le; simp; omega
    intro v' w2 ho hgr _
    rw [← HD.out] at ho
    have HO' := Lib.hid ho
    have HE' := Lib.hid (((HE.out.set (p := ⟨g, ds.length - 1, none⟩) hb (.int .u8 ((x : Int) + 128))).alloc _).grown hgr (fun k hk => by simp [Value.ownBlock] at hk; omega))
    clear ho hgr
    go_wp2
    go_ret
    exact ⟨_, rfl, HO'.out, HE'.out⟩

theorem Digits_any (n : Int) (w : World) (hn : I64 n) :
    Calls Try.prog 73 #[.int .i64 n] w fun e w' => ∃ u, e = .returned u ∧ Ow kByte 5 w' w.heap.size (w.heap.size ≤ ·) u (digs n.toNat) ∧ Ext w w' :=
  Digits_calls 9 n w (by have := hn.2; omega) hn

set_option maxHeartbeats 400000 in
theorem RefNumber_calls (w : World) (S : Nat → Prop) (v : Value) (bs : List UInt8) (n : Int) (hr : Rs kByte w S v bs) (hn : I64 n) (hsz : bs.length + 9 ≤ 140737488355328) :
    Calls Try.prog 49 #[v, .int .i64 n] w fun e w' => ∃ u, e = .returned u ∧ Ow kByte 5 w' w.heap.size (w.heap.size ≤ ·) u (bs ++ digs n.toNat) ∧ Ext w w' := by
  have HR := Lib.hid hr
  obtain ⟨A, c, rfl, hl, hc, hzl, hrow⟩ := hr
  clear hrow
  have HN := Lib.hid hn
  have hd := digs_len n.toNat (by have := hn.2; omega)
  have HD := Lib.hid hd
  clear hn hd
  go_enter Try.func49, Try.ntmps49
  go_wp2_with (first | fail | (at_builtin; refine wpList_append_Rs kByte rfl (.tmp 5) (.tmp 6) 24 5 rfl tBytes w.heap.size _ _ [] bs (w.heap.size ≤ ·) S rfl rfl ?co (HR.out.alloc _) (fun _ _ h => h) ?cn ?cb ?cz ?_))
  case co => exact Ow.slit (xs := []) (heap_alloc_new _ _) (Nat.le_refl _) (Nat.le_refl _) (by simp) (by simp)
  case cn => intro b hb; simp at hb; omega
  case cb => simp; omega
  case cz => simp
  intro v' w2 ho hg _
  have HO := Lib.hid ho
  have HE := Lib.hid (((Ext.refl w).alloc _).grown hg (fun k hk => by simp [Value.ownBlock] at hk; omega))
  clear ho hg
  go_wp2_with fail
  refine (Digits_any n _ HN.out).mono ?_
  rintro e w3 ⟨u, rfl, ho, he⟩
  have HO2 := Lib.hid (HO.out.ext he)
  have HU := Lib.hid ho
  have HE2 := Lib.hid (HE.out.trans he)
  clear ho he HO HE
  go_wp2_with (at_builtin; refine wpList_append_Rs kByte rfl (.tmp 7) (.tmp 9) 24 5 rfl tBytes w.heap.size _ _ _ _ (w.heap.size ≤ ·) _ rfl rfl HO2.out HU.out.rs (fun _ _ h => h) ?cn ?cb HE2.out.le ?_)
  case cn => intro b hb; have := HE2.out.le; omega
  case cb => have := HD.out; simp; omega
  intro v3 w4 ho hg _
  have HO := Lib.hid ho
  have HE := Lib.hid (HE2.out.grown hg HO2.out.from_)
  clear ho hg
  go_wp2
  go_ret
  refine ⟨_, rfl, ?_, HE.out⟩
  have := HO.out
  simpa using this

set_option maxHeartbeats 400000 in
theorem RefText_calls (w : World) (S : Nat → Prop) (v : Value) (bs : List UInt8) (s : ByteArray) (hr : Rs kByte w S v bs) (hsz : bs.length + 9 + s.size ≤ 140737488355328) :
    Calls Try.prog 51 #[v, .string s] w fun e w' => ∃ u, e = .returned u ∧ Ow kByte 5 w' w.heap.size (w.heap.size ≤ ·) u (bs ++ digs s.size ++ s.data.toList) ∧ Ext w w' := by
  have HR := Lib.hid hr
  clear hr
  go_enter Try.func51, Try.ntmps51
  go_wp2_with fail
  refine (RefNumber_calls w S v bs _ HR.out ⟨by omega, by omega⟩ (by omega)).mono ?_
  rintro e w' ⟨u, rfl, ho, he⟩
  have HO := Lib.hid ho
  have HE := Lib.hid he
  have hd := digs_len s.size (by omega)
  clear ho he
  go_wp2_with (at_builtin; refine wpList_append_str rfl (.tmp 8) (.tmp 9) 24 9 5 rfl tBytes tString w.heap.size _ _ _ _ rfl rfl HO.out (fun _ h => h) ?c1 HE.out.le ?_)
  case c1 => simp; omega
  intro v' w2 ho hg
  have HO' := Lib.hid ho
  have HE' := Lib.hid (HE.out.grown hg HO.out.from_)
  clear ho hg
  go_wp2
  go_ret
  refine ⟨_, rfl, ?_, HE'.out⟩
  rw [List.append_assoc]; exact HO'.out

set_option maxHeartbeats 400000 in
theorem RefFlag_calls (w : World) (S : Nat → Prop) (v : Value) (bs : List UInt8) (b : Bool) (hr : Rs kByte w S v bs) (hsz : bs.length + 9 ≤ 140737488355328) :
    Calls Try.prog 50 #[v, .bool b] w fun e w' => ∃ u, e = .returned u ∧ Ow kByte 5 w' w.heap.size (w.heap.size ≤ ·) u (bs ++ digs b.toNat) ∧ Ext w w' := by
  have HR := Lib.hid hr
  clear hr
  cases b
  all_goals
    go_enter Try.func50, Try.ntmps50
    go_wp2_with fail
    refine (RefNumber_calls w S v bs _ HR.out ⟨by omega, by omega⟩ (by omega)).mono ?_
    rintro e w' ⟨u, rfl, ho, he⟩
    have HO := Lib.hid ho
    have HE := Lib.hid he
    clear ho he
    go_wp2
    go_ret
    exact ⟨_, rfl, HO.out, HE.out⟩
end Go.Proofs.Ytfflcnlgkbgbhaa
set_option linter.unusedVariables false
set_option linter.unusedSimpArgs false
namespace Go.Proofs.Ytfflcnlgkbgbhaa
open Go.RowKit

theorem bv_u32 (a : Nat) (ha : a < 4294967296) : (BitVec.ofInt 32 (a : Int)).toNat = a := by
  rw [BitVec.ofInt_natCast, BitVec.toNat_ofNat]; exact Nat.mod_eq_of_lt (by omega)
theorem xor_u32 (a b : Nat) (ha : a < 4294967296) (hb : b < 4294967296) : bits .xor .u32 (a : Int) (b : Int) = ((a ^^^ b : Nat) : Int) := by
  have hx := xor_lt ha hb
  show IntKind.u32.wrap ((BitVec.ofInt 32 (a : Int) ^^^ BitVec.ofInt 32 (b : Int)).toNat : Int) = _
  rw [BitVec.toNat_xor, bv_u32 a ha, bv_u32 b hb, IntKind.wrap_u32]
  omega

theorem bit_step (q : Nat) (h : q < 4294967296) : bits .xor .u32 ((q : Int) * 2 % 4294967296) (79764919 * ((q : Int) / 2147483648)) = ((crcBit q : Nat) : Int) := by
  unfold crcBit
  split
  · rename_i h1
    have h2 := xor_u32 (2 * q - 4294967296) 79764919 (by omega) (by omega)
    have e1 : (q : Int) * 2 % 4294967296 = ((2 * q - 4294967296 : Nat) : Int) := by omega
    have e2 : 79764919 * ((q : Int) / 2147483648) = ((79764919 : Nat) : Int) := by omega
    rw [e1, e2]
    exact h2
  · rename_i h1
    have h2 := xor_u32 (2 * q) 0 (by omega) (by omega)
    rw [Nat.xor_zero] at h2
    have e1 : (q : Int) * 2 % 4294967296 = ((2 * q : Nat) : Int) := by omega
    have e2 : 79764919 * ((q : Int) / 2147483648) = ((0 : Nat) : Int) := by omega
    rw [e1, e2]
    exact h2

set_option maxHeartbeats 1000000 in
theorem Sum_calls (w : World) (S : Nat → Prop) (v : Value) (ls : List (List UInt8)) (hr : Rs (kSlice kByte) w S v ls) :
    Calls Try.prog 69 #[v] w fun e w' => e = .returned (.int .u32 (crc ls.flatten : Int)) ∧ w = w' := by
  obtain ⟨A, c, rfl, hl, hc, hzl, hrow⟩ := hr
  have HR := Lib.hid hrow
  clear hrow
  go_enter Try.func69, Try.ntmps69
  go_wp2
  go_loop [3, 11] (fun x i => ∃ k : Nat, k ≤ ls.length ∧ i = .int .i64 k ∧ ∃ z : Nat, x = .int .u32 (z : Int) ∧ z < 4294967296 ∧ Hid (z = crc (ls.take k).flatten)) (fun _ i => ls.length - (intOf i).toNat)
  case atStart => exact ⟨0, Nat.zero_le _, rfl, 4294967295, rfl, by omega, Lib.hid rfl⟩
  case round =>
    obtain ⟨k, hk, rfl, z, rfl, hz, HZ⟩ := hrel
    by_cases hlt : k < ls.length
    · obtain ⟨ad, u, rfl, hcell, hu⟩ := HR.out.slice hlt
      obtain ⟨A1, c1, rfl, hl1, hc1, hz1, hrow1⟩ := hu
      have HR1 := Lib.hid hrow1
      clear hrow1
      go_wp2
      go_loop [3, 17] (fun x i => ∃ j : Nat, j ≤ ls[k].length ∧ i = .int .i64 j ∧ ∃ z' : Nat, x = .int .u32 (z' : Int) ∧ z' < 4294967296 ∧ Hid (z' = crcFrom z (ls[k].take j))) (fun _ i => ls[k].length - (intOf i).toNat)
      case atStart => exact ⟨0, Nat.zero_le _, rfl, z, rfl, hz, Lib.hid rfl⟩
      case round =>
        obtain ⟨j, hj, rfl, z', rfl, hz', HZ'⟩ := hrel
        by_cases hlt' : j < ls[k].length
        · obtain ⟨ad1, rfl, hcell1⟩ := HR1.out.byte hlt'
          have hb := (ls[k][j]).toNat_lt
          generalize hx : ls[k][j] = x at hcell1 hb
          have HX := Lib.hid hx
          clear hx
          go_wp2
          have hxx : bits .xor .u32 (z' : Int) ((x.toNat : Int) * 16777216) = ((z' ^^^ (x.toNat * 16777216) : Nat) : Int) := by
            rw [← xor_u32 _ _ hz' (by omega)]; congr 1
          rw [hxx]
          have hy := crc_in x hz'
          generalize hye : z' ^^^ (x.toNat * 16777216) = y at hy
          have HY := Lib.hid hye
          clear hye hxx
          go_loop [3, 26] (fun x i => ∃ i' : Nat, i' ≤ 8 ∧ i = .int .i64 i' ∧ ∃ q : Nat, x = .int .u32 (q : Int) ∧ q < 4294967296 ∧ Hid (q = crcBits i' y)) (fun _ i => 8 - (intOf i).toNat)
          case atStart => exact ⟨0, by omega, rfl, y, rfl, hy, Lib.hid rfl⟩
          case round =>
            obtain ⟨i, hi, rfl, q, rfl, hq, HQ⟩ := hrel
            by_cases hi8 : i < 8
            · go_wp2
              rw [bit_step q hq]
              go_round
              case rel => exact ⟨i + 1, by omega, by go_num, crcBit q, rfl, crcBit_lt hq, Lib.hid (by rw [crcBits_succ, HQ.out])⟩
              case measure => simp [intOf]; omega
            · obtain rfl : i = 8 := by omega
              clear hi8
              go_wp2
              go_round
              case rel => exact ⟨j + 1, by omega, by go_num, q, rfl, hq, Lib.hid (by rw [List.take_succ_eq_append_getElem hlt', crcFrom_snoc, HX.out, ← HZ'.out, HQ.out, ← HY.out]; rfl)⟩
              case measure => simp [intOf]; omega
        · obtain rfl : j = ls[k].length := by omega
          rw [List.take_length] at HZ'
          clear hlt'
          go_wp2
          go_round
          case rel => exact ⟨k + 1, by omega, by go_num, z', rfl, hz', Lib.hid (by rw [flat_take_succ ls k hlt, crc, crcFrom_append, HZ'.out, HZ.out]; rfl)⟩
          case measure => simp [intOf]; omega
    · obtain rfl : k = ls.length := by omega
      rw [List.take_length] at HZ
      clear hlt
      go_wp2
      go_ret
      exact ⟨by rw [← HZ.out]; rfl, rfl⟩
end Go.Proofs.Ytfflcnlgkbgbhaa
set_option linter.unusedVariables false
set_option linter.unusedSimpArgs false
namespace Go.Proofs.Ytfflcnlgkbgbhaa
open Go.RowKit

theorem xor_i64 (a b : Nat) (ha : a < 4294967296) (hb : b < 4294967296) : bits .xor .i64 (a : Int) (b : Int) = ((a ^^^ b : Nat) : Int) := by
  have hx := xor_lt ha hb
  show IntKind.i64.wrap ((BitVec.ofInt 64 (a : Int) ^^^ BitVec.ofInt 64 (b : Int)).toNat : Int) = _
  rw [BitVec.toNat_xor, bv_i64 a (by omega), bv_i64 b (by omega), IntKind.wrap_i64]
  omega

set_option maxHeartbeats 1000000 in
theorem RefSum_calls (w : World) (S : Nat → Prop) (v : Value) (bs : List UInt8) (hr : Rs kByte w S v bs) :
    Calls Try.prog 74 #[v] w fun e w' => e = .returned (.int .u32 (crc bs : Int)) ∧ w = w' := by
  obtain ⟨A, c, rfl, hl, hc, hzl, hrow⟩ := hr
  have HR := Lib.hid hrow
  clear hrow
  go_enter Try.func74, Try.ntmps74
  go_wp2
  go_loop [3, 8] (fun x i => ∃ k : Nat, k ≤ bs.length ∧ i = .int .i64 k ∧ ∃ z : Nat, x = .int .i64 (z : Int) ∧ z < 4294967296 ∧ Hid (z = crc (bs.take k))) (fun _ i => bs.length - (intOf i).toNat)
  case atStart => exact ⟨0, Nat.zero_le _, rfl, 4294967295, rfl, by omega, Lib.hid rfl⟩
  case round =>
    obtain ⟨k, hk, rfl, z, rfl, hz, HZ⟩ := hrel
    by_cases hlt : k < bs.length
    · obtain ⟨ad, rfl, hcell⟩ := HR.out.byte hlt
      have hb := (bs[k]).toNat_lt
      generalize hx : bs[k] = x at hcell hb
      have HX := Lib.hid hx
      clear hx
      go_wp2
      have hxx : bits .xor .i64 (z : Int) ((x.toNat : Int) * 16777216) = ((z ^^^ (x.toNat * 16777216) : Nat) : Int) := by
        rw [← xor_i64 _ _ hz (by omega)]; congr 1
      rw [hxx]
      have hy := crc_in x hz
      generalize hye : z ^^^ (x.toNat * 16777216) = y at hy
      have HY := Lib.hid hye
      clear hye hxx
      go_loop [3, 17] (fun x i => ∃ i' : Nat, i' ≤ 8 ∧ i = .int .i64 i' ∧ ∃ q : Nat, x = .int .i64 (q : Int) ∧ q < 4294967296 ∧ Hid (q = crcBits i' y)) (fun _ i => 8 - (intOf i).toNat)
      case atStart => exact ⟨0, by omega, rfl, y, rfl, hy, Lib.hid rfl⟩
      case round =>
        obtain ⟨i, hi, rfl, q, rfl, hq, HQ⟩ := hrel
        by_cases hi8 : i < 8
        · by_cases hbig : 4294967296 ≤ 2 * q
          · have hcb : crcBit q = (2 * q - 4294967296) ^^^ 79764919 := by unfold crcBit; rw [if_pos hbig]
            have h2 : bits .xor .i64 (2 * (q : Int) - 4294967296) 79764919 = ((crcBit q : Nat) : Int) := by
              rw [hcb]
              have h3 := xor_i64 (2 * q - 4294967296) 79764919 (by omega) (by omega)
              have e1 : 2 * (q : Int) - 4294967296 = ((2 * q - 4294967296 : Nat) : Int) := by omega
              rw [e1]
              exact h3
            have H2 := Lib.hid h2
            have hb1 : (4294967296 : Int) ≤ 2 * (q : Int) := by omega
            clear h2 hcb hbig
            go_wp2
            rw [H2.out]
            go_round
            case rel => exact ⟨i + 1, by omega, by go_num, crcBit q, rfl, crcBit_lt hq, Lib.hid (by rw [crcBits_succ, HQ.out])⟩
            case measure => simp [intOf]; omega
          · have hcb : crcBit q = 2 * q := by unfold crcBit; rw [if_neg hbig]
            have H2 := Lib.hid hcb
            have hb1 : decide ((4294967296 : Int) ≤ 2 * (q : Int)) = false := decide_eq_false (by omega)
            clear hcb hbig
            go_wp2
            go_round
            case rel => exact ⟨i + 1, by omega, by go_num, crcBit q, by rw [H2.out]; go_num, crcBit_lt hq, Lib.hid (by rw [crcBits_succ, HQ.out])⟩
            case measure => simp [intOf]; omega
        · obtain rfl : i = 8 := by omega
          clear hi8
          go_wp2
          go_round
          case rel => exact ⟨k + 1, by omega, by go_num, q, rfl, hq, Lib.hid (by rw [List.take_succ_eq_append_getElem hlt, crc, crcFrom_snoc, HX.out, HQ.out, ← HY.out, HZ.out]; rfl)⟩
          case measure => simp [intOf]; omega
    · obtain rfl : k = bs.length := by omega
      rw [List.take_length] at HZ
      clear hlt
      go_wp2
      go_ret
      exact ⟨by rw [← HZ.out]; rfl, rfl⟩
end Go.Proofs.Ytfflcnlgkbgbhaa
set_option linter.unusedVariables false
set_option linter.unusedSimpArgs false
namespace Go.Proofs.Ytfflcnlgkbgbhaa
open Go.RowKit

theorem tArr : Try.prog.underlying 105 = some (.array 4 5) := by kernel_rfl
set_option maxHeartbeats 400000 in
theorem four_calls (w : World) (c : Nat) (hc : c < 4294967296) :
    Calls Try.prog 68 #[.int .u32 (c : Int)] w fun e w' => e = .returned (.agg ((be4 c).map encB).toArray) ∧ Ext w w' := by
  go_enter Try.func68, Try.ntmps68
  go_wp2_with fail
  refine bodyPost_ret (results_cell_row rfl _ _ _ _ _ _ (.array 4 5) rfl (heap_alloc_new _ _) tArr rfl (by kernel_rfl)) rfl ?_
  refine ⟨?_, (Ext.refl w).alloc _⟩
  have e1 : Value.int .u8 ((c : Int) / 16777216) = encB (byt (c / 16777216)) := by rw [← byteval _ (by omega)]; rfl
  have e2 : Value.int .u8 ((c : Int) / 65536 % 256) = encB (byt (c / 65536)) := by unfold encB; rw [byt_toNat]; rfl
  have e3 : Value.int .u8 ((c : Int) / 256 % 256) = encB (byt (c / 256)) := by unfold encB; rw [byt_toNat]; rfl
  have e4 : Value.int .u8 ((c : Int) % 256) = encB (byt c) := by unfold encB; rw [byt_toNat]; rfl
  rw [e1, e2, e3, e4]
  rfl

theorem Rs.four_ {w : World} {S : Nat → Prop} {g t : Nat} {fz : Nat × Nat} {x0 x1 x2 x3 : UInt8} (hb : w.heap[g]? = some (.cells #[encB x0, encB x1, encB x2, encB x3] t fz)) (hS : S g) :
    Rs kByte w S (.slice (some ⟨g, 0, none⟩) 4 4) [x0, x1, x2, x3] :=
  ⟨_, 4, rfl, by simp, by omega, by simp, Row.bytes_of hb hS fun j x hj => by
    match j, hj with
    | 0, hj => simp at hj; subst hj; rfl
    | 1, hj => simp at hj; subst hj; rfl
    | 2, hj => simp at hj; subst hj; rfl
    | 3, hj => simp at hj; subst hj; rfl⟩

set_option maxHeartbeats 400000 in
theorem Record_calls (w : World) (S : Nat → Prop) (v : Value) (p : List UInt8) (hr : Rs kByte w S v p) :
    Calls Try.prog 47 #[v] w fun e w' => ∃ u, e = .returned (.tuple #[u, .int .i64 ((record p).2 : Int)]) ∧ Ow kByte 5 w' w.heap.size (w.heap.size ≤ ·) u (record p).1 ∧ Ext w w' := by
  have HR := Lib.hid hr
  obtain ⟨A, c, rfl, hl, hc, hz, hrow⟩ := hr
  clear hrow
  by_cases hbig : 65536 < p.length
  · have hrec : record p = ([], 4) := by unfold record; rw [if_pos hbig]
    rw [hrec]
    clear hrec
    go_enter Try.func47, Try.ntmps47
    go_wp2_with fail
    go_ret2
    exact ⟨_, rfl, Ow.nil _ _ _ _ _, Ext.refl _⟩
  · have hrec : record p = (rcd p, 0) := by unfold record; rw [if_neg hbig]
    rw [hrec]
    clear hrec
    go_enter Try.func47, Try.ntmps47
    go_wp2_with fail
    have hone := Rs.one_byte w w.heap.size 5 rfl (byt 93)
    refine (Number_calls _ _ _ [byt 93] (p.length : Int) hone ⟨by omega, by omega⟩ (by simp)).mono ?_
    rintro e w1 ⟨u, rfl, ho, he⟩
    have hd := digs_len p.length (by omega)
    rw [Int.toNat_natCast] at ho
    obtain ⟨g, cap, rfl, hg1, hg2, hg3, hg4⟩ := ho.form (by simp)
    have HO := Lib.hid ho
    have HE := Lib.hid (((Ext.refl w).alloc _).trans he)
    clear ho he hone
    go_wp2_with fail
    have hl2 : ([byt 93] ++ digs p.length).length = (digs p.length).length + 1 := by simp [Nat.add_comm]
    rw [hl2] at HO
    refine (Sum_calls _ (fun _ => True) _ [byt 93 :: digs p.length, p] (Rs.two (heap_alloc_new _ _) trivial ((HO.out.rs.alloc _).mono fun _ _ => trivial) ((HR.out.ext HE.out).alloc _ |>.mono fun _ _ => trivial))).mono ?_
    rintro e w2 ⟨rfl, rfl⟩
    have hb : crc [byt 93 :: digs p.length, p].flatten = crc (body p) := by simp [body]
    have hcl := crc_lt (body p)
    rw [hb]
    generalize hX : crc (body p) = X at *
    have HX := Lib.hid hX
    clear hX hb
    go_wp2_with fail
    refine (four_calls _ X hcl).mono ?_
    rintro e w2 ⟨rfl, he⟩
    have HE2 := Lib.hid ((HE.out.alloc _).trans he)
    have HO2 := Lib.hid ((HO.out.alloc _).ext he)
    have HR2 := Lib.hid (((HR.out.ext HE.out).alloc _).ext he)
    simp only [be4, List.map_cons, List.map_nil, encB]
    clear he HR HO
    go_wp2_with fail
    have h4 : Rs kByte (w2.alloc (.cells #[encB (byt (X / 16777216)), encB (byt (X / 65536)), encB (byt (X / 256)), encB (byt X)] 105)) (fun _ => True) (.slice (some ⟨w2.heap.size, 0, none⟩) 4 4) (be4 X) :=
      Rs.four_ (heap_alloc_new _ _) trivial
    refine (Join_calls _ (fun _ => True) _ [byt 93 :: digs p.length, p, be4 X] (Rs.three (heap_alloc_new (w2.alloc _) _ |> fun h => by simpa using h) trivial (((HO2.out.rs.alloc _).alloc _).mono fun _ _ => trivial) (((HR2.out.alloc _).alloc _).mono fun _ _ => trivial) (h4.alloc _)) (by simp [flen, be4]; omega)).mono ?_
    rintro e w3 ⟨u, rfl, ho, he⟩
    have hb : [byt 93 :: digs p.length, p, be4 X].flatten = rcd p := by rw [← HX.out]; simp [rcd, body]
    have hE := ((HE2.out.alloc _).alloc _).trans he
    rw [hb] at ho
    have hle := HE2.out.le
    have HO3 := Lib.hid ((ho.lower (base' := w.heap.size) (by simp; omega)).mono (S' := (w.heap.size ≤ ·)) fun b hb => by simp at hb; omega)
    have HE3 := Lib.hid hE
    clear ho he hE h4 HO2 HR2
    go_wp2
    go_ret2
    exact ⟨_, rfl, HO3.out, HE3.out⟩
end Go.Proofs.Ytfflcnlgkbgbhaa
