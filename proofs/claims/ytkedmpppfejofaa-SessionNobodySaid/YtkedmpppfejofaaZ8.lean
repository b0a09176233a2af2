/-
  Texts of this claim, put together: SesNo, SessionNobody.
-/
import Derived.Test.YtkedmpppfejofaaZ5
set_option linter.unusedVariables false
set_option linter.unusedSimpArgs false
namespace Go.Proofs.Ytkedmpppfejofaa
open Go.RowKit

/-- nil, or a table whose map is nil. -/
def NoT (w : World) (v : Value) : Prop := v = .pointer none ∨ ∃ p, v = .pointer (some ⟨p, 0, none⟩) ∧ w.heap[p]? = some (.cells #[.map none] 54 (0, 0))
theorem NoT.ext {w w' : World} {v : Value} (h : NoT w v) (he : Ext w w') : NoT w' v := h.elim .inl fun ⟨p, e, hb⟩ => .inr ⟨p, e, blk_ext hb he⟩
set_option maxHeartbeats 400000 in
theorem made_no (w : World) (v : Value) (h : NoT w v) : Calls Try.prog 36 #[v] w fun e w' => e = .returned (.bool false) ∧ w = w' := by
  have qN : ∀ (w : World) (r : Option Nat), (binOp .neq 52 (.map r) (.map none)).run Try.prog w = .ok (.bool (!r.isNone)) w := fun w r => run_neq_map_nil w _ _ _ r Try.underlying52
  rcases h with rfl | ⟨p, rfl, hb⟩
  · go_enter Try.func36, Try.ntmps36
    go_wp2_with fail
    go_ret
    exact ⟨rfl, rfl⟩
  · have hc : w.cell? ⟨p, 0, none⟩ = some (.map none) := cell_blk hb 0
    clear hb
    go_enter Try.func36, Try.ntmps36
    go_wp2_with fail
    go_ret
    exact ⟨rfl, rfl⟩
set_option maxRecDepth 100000 in
set_option maxHeartbeats 1000000 in
theorem Ask_no (w : World) (v : Value) (n q : Int) (h : NoT w v) : Calls Try.prog 17 #[v, .int .i64 n, .int .i64 q] w fun e w' => e = .returned (.tuple #[.agg (replyC zeroR), .bool false, .int .i64 6]) ∧ Ext w w' := by
  have HN := Lib.hid h
  clear h
  go_enter Try.func17, Try.ntmps17
  go_wp2_with fail
  obtain ⟨w1, hw1⟩ : ∃ w1, w1 = (w.alloc (.cells (replyC zeroR) 26)).alloc (.cells (replyC zeroR) 26) := ⟨_, rfl⟩
  have HX1 := Lib.hid (show Ext w w1 by rw [hw1]; exact ((Ext.refl w).alloc _).alloc _)
  have HB1 := Lib.hid (show w1.heap[w.heap.size]? = some (.cells (replyC zeroR) 26 (0, 0)) by rw [hw1]; exact blk_ext (heap_new w _ rfl _) ((Ext.refl _).alloc _))
  have HB2 := Lib.hid (show w1.heap[w.heap.size + 1]? = some (.cells (replyC zeroR) 26 (0, 0)) by rw [hw1]; exact heap_new _ _ (by simp) _)
  unfold replyC zeroR at hw1
  rw [← hw1]
  clear hw1
  refine (made_no w1 v (HN.out.ext HX1.out)).mono ?_
  rintro e w' ⟨rfl, rfl⟩
  obtain ⟨x0, x1, x2, x3, x4, x5, x6, x7⟩ := rep_cells HB2.out
  simp only [zeroR] at x0 x1 x2 x3 x4 x5 x6 x7
  have HSM := Lib.hid (setRow_heap w1 w.heap.size _ (replyC zeroR) 26 (0, 0) HB1.out)
  have HSU := Lib.hid (setRow_upd w1 w.heap.size (replyC zeroR))
  go_wp2_with (refine wpList_store_row rfl 26 (.tmp 6) (.tmp 16) rfl w.heap.size (replyC zeroR) rfl rfl 26 _ HB1.out rep8 rfl (repC_one _) ?_)
  (try go_wp2_with fail)
  (try simp only [Exit.inBlock, Exit.then])
  refine bodyPost_ret (results_reply rfl _ _ _ _ _ _ rfl HSM.out) rfl ?_
  exact ⟨rfl, HSU.out.ext HX1.out (fun k hk => by have hk' : k = w.heap.size := hk; omega)⟩
set_option maxHeartbeats 400000 in
theorem Open_no (w : World) (v : Value) (n : Int) (h : NoT w v) : Calls Try.prog 16 #[v, .int .i64 n] w fun e w' => e = .returned (.int .i64 6) ∧ Ext w w' := by
  go_enter Try.func16, Try.ntmps16
  go_wp2_with fail
  refine (made_no w v h).mono ?_
  rintro e w' ⟨rfl, rfl⟩
  go_wp2_with fail
  go_ret
  exact ⟨rfl, Ext.refl _⟩
set_option maxHeartbeats 1000000 in
theorem Keep_no (w : World) (v : Value) (n q a : Int) (r : ReplyS) (h : NoT w v) : Calls Try.prog 15 #[v, .int .i64 n, .int .i64 q, .int .i64 a, .agg (replyC r)] w fun e w' => e = .returned (.int .i64 6) ∧ Ext w w' := by
  have HN := Lib.hid h
  clear h
  dsimp only [replyC]
  go_enter Try.func15, Try.ntmps15
  go_upto_region 1 with fail
  obtain ⟨w1, hw1⟩ : ∃ w1, w1 = w.alloc (.cells (replyC r) 26) := ⟨_, rfl⟩
  have HX1 := Lib.hid (show Ext w w1 by rw [hw1]; exact (Ext.refl w).alloc _)
  unfold replyC at hw1
  rw [← hw1]
  clear hw1
  go_wp2_with fail
  refine (Ask_no w1 v n q (HN.out.ext HX1.out)).mono ?_
  rintro e w2 ⟨rfl, hx⟩
  have HX2 := Lib.hid (HX1.out.trans hx)
  clear hx
  dsimp only [replyC, zeroR]
  go_wp2_with fail
  go_ret
  exact ⟨rfl, HX2.out.alloc _⟩
set_option maxHeartbeats 400000 in
theorem Expire_no (w : World) (v : Value) (n : Int) (h : NoT w v) : Calls Try.prog 19 #[v, .int .i64 n] w fun e w' => e = .returned (.int .i64 0) ∧ Ext w w' := by
  have HX1 := Lib.hid ((Ext.refl w).alloc (.cells #[.int .i64 n] 3))
  have HN := Lib.hid (h.ext HX1.out)
  clear h
  go_enter Try.func19, Try.ntmps19
  go_wp2_with fail
  refine (made_no _ v HN.out).mono ?_
  rintro e w' ⟨rfl, rfl⟩
  go_wp2_with fail
  go_ret
  exact ⟨rfl, HX1.out⟩
set_option maxHeartbeats 400000 in
theorem Seats_no (w : World) (v : Value) (h : NoT w v) : Calls Try.prog 20 #[v] w fun e w' => e = .returned (.slice none 0 0) ∧ Ext w w' := by
  go_enter Try.func20, Try.ntmps20
  go_wp2_with fail
  refine (made_no w v h).mono ?_
  rintro e w' ⟨rfl, rfl⟩
  go_wp2_with fail
  go_ret
  exact ⟨rfl, Ext.refl _⟩
set_option maxHeartbeats 400000 in
theorem Image_no (w : World) (v : Value) (h : NoT w v) : Calls Try.prog 22 #[v] w fun e w' => e = .returned (.slice none 0 0) ∧ Ext w w' := by
  go_enter Try.func22, Try.ntmps22
  go_wp2_with fail
  refine (made_no w v h).mono ?_
  rintro e w' ⟨rfl, rfl⟩
  go_wp2_with fail
  go_ret
  exact ⟨rfl, Ext.refl _⟩
set_option maxHeartbeats 400000 in
theorem Clone_no (w : World) (v : Value) (h : NoT w v) : Calls Try.prog 23 #[v] w fun e w' => e = .returned (.pointer none) ∧ Ext w w' := by
  go_enter Try.func23, Try.ntmps23
  go_wp2_with fail
  refine (made_no w v h).mono ?_
  rintro e w' ⟨rfl, rfl⟩
  go_wp2_with fail
  go_ret
  exact ⟨rfl, Ext.refl _⟩
end Go.Proofs.Ytkedmpppfejofaa
set_option linter.unusedVariables false
set_option linter.unusedSimpArgs false
namespace Go.Proofs.Ytkedmpppfejofaa
open Go.RowKit

set_option maxRecDepth 100000 in
set_option maxHeartbeats 8000000 in
theorem SessionNobody_go (w : World) (k : SDoS) : Calls Try.prog 7 #[.agg (sdoC k)] w fun e w' => e = .returned (.bool true) ∧ Ext w w' := by
  have awk : ∀ W : World, Ext w W → Calls Try.prog 13 #[] W fun e w' => e = .returned (.bool true) ∧ Hid (Ext w w') := fun W hW => (awake_calls W).mono fun _ _ h => ⟨h.1, Lib.hid (hW.trans h.2)⟩
  dsimp only [sdoC]
  go_enter Try.func7, Try.ntmps7
  go_upto_region 1 with fail
  obtain ⟨w1, hw1⟩ : ∃ w1, w1 = w.alloc (.cells (sdoC k) 32) := ⟨_, rfl⟩
  obtain ⟨gk, hgk⟩ : ∃ g, g = w.heap.size := ⟨_, rfl⟩
  have HX1 := Lib.hid (show Ext w w1 by rw [hw1]; exact (Ext.refl _).alloc _)
  have HG1 := Lib.hid (show w1.heap[gk]? = some (.cells (sdoC k) 32 (0, 0)) by rw [hw1]; exact heap_new w gk hgk.symm _)
  unfold sdoC at hw1
  rw [← hw1, ← hgk]
  clear hw1 hgk
  go_wp2_with fail
  obtain ⟨w2, hw2⟩ : ∃ w2, w2 = (w1.alloc (.cells #[.map none] 54)).alloc (.cells #[.pointer none, .pointer (some ⟨w1.heap.size, 0, none⟩)] 33) := ⟨_, rfl⟩
  have hx2 : Ext w1 w2 := by rw [hw2]; exact ((Ext.refl _).alloc _).alloc _
  have HX2 := Lib.hid (HX1.out.trans hx2)
  have HG2 := Lib.hid (blk_ext HG1.out hx2)
  have HT2 := Lib.hid (show w2.heap[w1.heap.size]? = some (.cells #[.map none] 54 (0, 0)) by rw [hw2]; exact blk_ext (heap_new w1 _ rfl _) ((Ext.refl _).alloc _))
  have HL2 := Lib.hid (show w2.heap[w1.heap.size + 1]? = some (.cells #[.pointer none, .pointer (some ⟨w1.heap.size, 0, none⟩)] 33 (0, 0)) by rw [hw2]; exact heap_new _ _ (by simp) _)
  rw [← hw2]
  clear hw2 hx2 HX1 HG1
  obtain ⟨gl, hgl⟩ : ∃ g, g = w1.heap.size + 1 := ⟨_, rfl⟩
  rw [← hgl] at HL2
  rw [← hgl]
  clear hgl
  go_loopw [12] (fun i wr => ∃ j : Nat, j ≤ 2 ∧ i = .int .i64 j ∧ Hid (Ext w2 wr)) (fun i _ => 2 - (intOf i).toNat)
  case atStart => exact ⟨0, Nat.zero_le _, rfl, Lib.hid (Ext.refl _)⟩
  case round =>
    obtain ⟨j, hj, rfl, HX⟩ := hrel
    by_cases hlt : j < 2
    · obtain ⟨u, hu, hcell⟩ : ∃ u, NoT wr u ∧ wr.cell? ⟨gl, j, none⟩ = some u := by
        have hb := blk_ext HL2.out HX.out
        match j, hlt with
        | 0, _ => exact ⟨_, .inl rfl, cell_blk hb 0⟩
        | 1, _ => exact ⟨_, .inr ⟨_, rfl, blk_ext HT2.out HX.out⟩, cell_blk hb 1⟩
      have HU := Lib.hid hu
      clear hu
      obtain ⟨x0, x1, x2, x3, x4, x5, x6, x7, x8, x9, x10, x11⟩ := sdo_cells (blk_ext HG2.out HX.out)
      go_wp2_with fail
      refine (Ask_no wr u k.session k.seq HU.out).mono ?_
      rintro e w3 ⟨rfl, hx⟩
      dsimp only [replyC, zeroR]
      go_upto_region 5 with fail
      obtain ⟨w4, hw4⟩ : ∃ w4, w4 = w3.alloc (.cells (replyC zeroR) 26) := ⟨_, rfl⟩
      obtain ⟨gr, hgr⟩ : ∃ g, g = w3.heap.size := ⟨_, rfl⟩
      have hx4 : Ext wr w4 := by rw [hw4]; exact hx.alloc _
      have HX4 := Lib.hid (HX.out.trans hx4)
      have HU4 := Lib.hid (HU.out.ext hx4)
      have hR4 : w4.heap[gr]? = some (.cells (replyC zeroR) 26 (0, 0)) := by rw [hw4]; exact heap_new w3 gr hgr.symm _
      unfold replyC zeroR at hw4
      rw [← hw4, ← hgr]
      clear hw4 hgr hx hx4 HX HU x0 x1 x2 x3 x4 x5 x6 x7 x8 x9 x10 x11 hcell
      obtain ⟨z0, z1, z2, z3, z4, z5, z6, z7⟩ := rep_cells hR4
      clear hR4
      obtain ⟨x0, x1, x2, x3, x4, x5, x6, x7, x8, x9, x10, x11⟩ := sdo_cells (blk_ext HG2.out HX4.out)
      have hq := fun W => reply_neq W zeroR zeroR
      rw [show beqR zeroR zeroR = true by simp [beqR]] at hq
      simp only [replyC, zeroR] at hq z0 z1 z2 z3 z4 z5 z6 z7
      go_wp2_with fail
      refine (Open_no w4 u k.at_ HU4.out).mono ?_
      rintro e w5 ⟨rfl, hx⟩
      have HX5 := Lib.hid (HX4.out.trans hx)
      have HU5 := Lib.hid (HU4.out.ext hx)
      clear hx HX4 HU4 x0 x1 x2 x3 x4 x5 x6 x7 x8 x9 x10 x11 z0 z1 z2 z3 z4 z5 z6 z7 hq
      obtain ⟨x0, x1, x2, x3, x4, x5, x6, x7, x8, x9, x10, x11⟩ := sdo_cells (blk_ext HG2.out HX5.out)
      go_wp2_with fail
      refine (Keep_no w5 u k.session k.seq k.at_ k.r HU5.out).mono ?_
      rintro e w6 ⟨rfl, hx⟩
      have HX6 := Lib.hid (HX5.out.trans hx)
      have HU6 := Lib.hid (HU5.out.ext hx)
      clear hx HX5 HU5 x0 x1 x2 x3 x4 x5 x6 x7 x8 x9 x10 x11
      obtain ⟨x0, x1, x2, x3, x4, x5, x6, x7, x8, x9, x10, x11⟩ := sdo_cells (blk_ext HG2.out HX6.out)
      go_wp2_with fail
      refine (Expire_no w6 u k.at_ HU6.out).mono ?_
      rintro e w7 ⟨rfl, hx⟩
      have HX7 := Lib.hid (HX6.out.trans hx)
      have HU7 := Lib.hid (HU6.out.ext hx)
      clear hx HX6 HU6 x0 x1 x2 x3 x4 x5 x6 x7 x8 x9 x10 x11
      go_wp2_with fail
      refine (Seats_no w7 u HU7.out).mono ?_
      rintro e w8 ⟨rfl, hx⟩
      have HX8 := Lib.hid (HX7.out.trans hx)
      have HU8 := Lib.hid (HU7.out.ext hx)
      clear hx HX7 HU7
      go_wp2_with fail
      refine (Image_no w8 u HU8.out).mono ?_
      rintro e w9 ⟨rfl, hx⟩
      have HX9 := Lib.hid (HX8.out.trans hx)
      have HU9 := Lib.hid (HU8.out.ext hx)
      clear hx HX8 HU8
      go_wp2_with fail
      refine (Clone_no w9 u HU9.out).mono ?_
      rintro e w10 ⟨rfl, hx⟩
      have HX10 := Lib.hid (HX9.out.trans hx)
      clear hx HX9 HU9
      go_wp2_with fail
      go_roundw
      case rel => exact ⟨j + 1, by omega, by go_num, HX10⟩
      case measure => simp [intOf]; omega
    · obtain rfl : j = 2 := by omega
      go_wp2_with fail
      refine (awk _ (HX2.out.trans HX.out)).mono ?_
      rintro e w' ⟨rfl, HE⟩
      go_wp2_with fail
      go_ret
      exact ⟨rfl, HE.out⟩
theorem SessionNobody_walk (w : World) (cs : Array Value) (k : SDoS) (hk : kSDo.K w (· < w.heap.size) k cs.toList) :
    Calls Try.prog 7 #[.agg cs] w fun e w' => e = .returned (.bool true) ∧ Ext w w' := by
  obtain ⟨e, hI⟩ := kSDo_iff.1 hk
  rw [Array.toList_inj.1 e]
  exact SessionNobody_go w k
end Go.Proofs.Ytkedmpppfejofaa
