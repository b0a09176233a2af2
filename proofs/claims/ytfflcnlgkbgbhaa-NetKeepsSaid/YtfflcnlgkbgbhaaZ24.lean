/-
  Texts of this claim, put together: RBagP.
-/
import Derived.Test.YtfflcnlgkbgbhaaZ14
set_option linter.unusedVariables false
set_option linter.unusedSimpArgs false
namespace Go.Proofs.Ytfflcnlgkbgbhaa
open Go.RowKit

theorem Rs.one_intb {W : World} {T : Nat → Prop} {g : Nat} {t : TypeId} {n : Int} (hb : W.heap[g]? = some (.cells #[.int .i64 n] t (0, 0))) (hS : T g) (hn : I64 n) : Rs kInt W T (.slice (some ⟨g, 0, none⟩) 1 1) [n] :=
  ⟨_, 1, rfl, by simp, by omega, by simp, Row.ints_of hb hS (by simpa using hn) fun j x hj => by
    match j, hj with
    | 0, hj => simp at hj; subst hj; rfl⟩
/-- The reference's bag at block g. -/
def RefR (w : World) (g : Nat) (B : Nat → Prop) (s : BagS) : Prop :=
  ∃ A c A2 c2, w.heap[g]? = some (.cells #[.slice A s.ms.length c, .slice A2 s.ids.length c2, .int .i64 s.last] 50 (0, 0)) ∧ Rs kMsg w B (.slice A s.ms.length c) s.ms ∧ Rs kInt w B (.slice A2 s.ids.length c2) s.ids ∧ BagOk s ∧ s.last ≤ 4611686018427387904 ∧ ¬ B g

set_option maxRecDepth 1000000 in
set_option maxHeartbeats 4000000 in
theorem rs7 {K : Act → World → Prop} {Q : Exit → Act → World → Prop} {w : World} {c1 c2 c3 c4 c5 c6 c8 c9 c10 c11 c12 c13 c14 c15 c16 c17 c18 c19 c20 c21 c22 c23 c24 c25 c26 c27 c28 c29 c30 c31 c32 c33 c34 c35 c36 c37 c38 c39 c40 c41 c42 c43 c44 c45 c46 c47 c48 c49 c50 c51 c52 c53 c54 c55 c56 c57 c58 c59 c60 c61 c62 : Value} (g q : Nat) (B T : Nat → Prop) (s : BagS) (m : MsgS) (A Ae Av Ad : Option Addr) (c ce cv cd : Nat) (v1 : Value) (last : Int) (hb : Hid (w.heap[g]? = some (.cells #[.slice A s.ms.length c, v1, .int .i64 last] 50 (0, 0)))) (hq : Hid (w.heap[q]? = some (.cells (msgC m (.slice Ae m.entries.length ce) (.slice Av m.voters.length cv) (.slice Ad m.data.length cd)) 26 (0, 0)))) (hr : Hid (Rs kMsg w B (.slice A s.ms.length c) s.ms)) (hm : Hid (MsgV w T (.agg (msgC m (.slice Ae m.entries.length ce) (.slice Av m.voters.length cv) (.slice Ad m.data.length cd))) m)) (hB : ¬ B g) (hT : ¬ T g) (hqg : q ≠ g) (h256 : s.ms.length ≤ 256)
    (hK : ∀ (u32 u33 u34 u35 u36 u37 u38 u39 u40 u41 u42 u43 : Value) (wx : World), Hid (∃ A' c', wx.heap[g]? = some (.cells #[.slice A' (s.ms ++ [m]).length c', v1, .int .i64 last] 50 (0, 0)) ∧ Rs kMsg wx (fun b => w.heap.size ≤ b ∨ B b ∨ T b) (.slice A' (s.ms ++ [m]).length c') (s.ms ++ [m]) ∧ Upd (fun b => b = g) w wx) → K ⟨#[.pointer (some ⟨g, 0, none⟩), c1, c2, c3, c4, c5, c6, .pointer (some ⟨q, 0, none⟩), c8, c9, c10, c11, c12, c13, c14, c15, c16, c17, c18, c19, c20, c21, c22, c23, c24, c25, c26, c27, c28, c29, c30, c31, u32, u33, u34, u35, u36, u37, u38, u39, u40, u41, u42, u43, c44, c45, c46, c47, c48, c49, c50, c51, c52, c53, c54, c55, c56, c57, c58, c59, c60, c61, c62], []⟩ wx) :
    Code.wp Try.prog ((Try.f31.body.bind (regionAt 7)).getD .skip) (Exit.then K Q) ⟨#[.pointer (some ⟨g, 0, none⟩), c1, c2, c3, c4, c5, c6, .pointer (some ⟨q, 0, none⟩), c8, c9, c10, c11, c12, c13, c14, c15, c16, c17, c18, c19, c20, c21, c22, c23, c24, c25, c26, c27, c28, c29, c30, c31, c32, c33, c34, c35, c36, c37, c38, c39, c40, c41, c42, c43, c44, c45, c46, c47, c48, c49, c50, c51, c52, c53, c54, c55, c56, c57, c58, c59, c60, c61, c62], []⟩ w := by
  conv => arg 2; whnf
  have hK2 := Lib.hid @hK
  obtain ⟨ST, hST⟩ : ∃ ST : World → Prop, ST = fun W => W.heap[g]? = some (.cells #[.slice A s.ms.length c, v1, .int .i64 last] 50 (0, 0)) ∧ W.heap[q]? = some (.cells (msgC m (.slice Ae m.entries.length ce) (.slice Av m.voters.length cv) (.slice Ad m.data.length cd)) 26 (0, 0)) := ⟨_, rfl⟩
  have HS0 := Lib.hid (show ∀ W : World, ST W → W.cell? ⟨q, 0, none⟩ = some (.int .i64 m.kind) ∧ W.cell? ⟨q, 1, none⟩ = some (.int .i64 m.from_) ∧ W.cell? ⟨q, 2, none⟩ = some (.int .i64 m.to_) ∧ W.cell? ⟨q, 3, none⟩ = some (.int .i64 m.term) ∧ W.cell? ⟨q, 4, none⟩ = some (.int .i64 m.index) ∧ W.cell? ⟨q, 5, none⟩ = some (.int .i64 m.logTerm) ∧ W.cell? ⟨q, 6, none⟩ = some (.int .i64 m.commit) ∧ W.cell? ⟨q, 7, none⟩ = some (.int .i64 m.round) ∧ W.cell? ⟨q, 8, none⟩ = some (.bool m.yes) ∧ W.cell? ⟨q, 9, none⟩ = some (.bool m.done) ∧ W.cell? ⟨q, 10, none⟩ = some (.slice Ae m.entries.length ce) ∧ W.cell? ⟨q, 11, none⟩ = some (.slice Av m.voters.length cv) ∧ W.cell? ⟨q, 12, none⟩ = some (.slice Ad m.data.length cd) by rw [hST]; exact fun W h => ⟨cell_blk h.2 0, cell_blk h.2 1, cell_blk h.2 2, cell_blk h.2 3, cell_blk h.2 4, cell_blk h.2 5, cell_blk h.2 6, cell_blk h.2 7, cell_blk h.2 8, cell_blk h.2 9, cell_blk h.2 10, cell_blk h.2 11, cell_blk h.2 12⟩)
  have HS1 := Lib.hid (show ∀ W : World, ST W → W.cell? ⟨g, 0, none⟩ = some (.slice A s.ms.length c) by rw [hST]; exact fun W h => cell_blk h.1 0)
  have HBK := Lib.hid (show ∀ W : World, ST W → W.heap[g]? = some (.cells #[.slice A s.ms.length c, v1, .int .i64 last] 50 (0, 0)) by rw [hST]; exact fun W h => h.1)
  have HEXT := Lib.hid (show ∀ W W' : World, ST W → Ext W W' → ST W' by rw [hST]; exact fun W W' h hx => ⟨blk_ext h.1 hx, blk_ext h.2 hx⟩)
  have HGL := Lib.hid (show g < w.heap.size from blk_lt hb.out)
  have HB := Lib.hid (show Rs kMsg w (fun b => B b ∧ b < w.heap.size) (.slice A s.ms.length c) s.ms from hr.out.bound)
  have HSZ := Lib.hid (show (([] : List MsgS).length + (s.ms).length) * 144 ≤ 140737488355328 ∧ ((s.ms).length + [m].length) * 144 ≤ 140737488355328 by simp; omega)
  have HGR := Lib.hid (show ∀ (W W' : World) (r : Option Nat), ST W → W.grownBy W' r → (∀ k, r = some k → w.heap.size ≤ k) → ST W' by rw [hST]; exact fun W W' r h hg hr => ⟨(hg.block g (blk_lt h.1) (fun e => by have h1 := hr g e.symm; have h2 := HGL.out; omega)).trans h.1, (hg.block q (blk_lt h.2) (fun e => by have h1 := hr q e.symm; have h2 := blk_lt hq.out; omega)).trans h.2⟩)
  have HST0 := Lib.hid (show ∀ (W : World) (v : Value), ST W → (W.setCell ⟨g, 0, none⟩ v).cell? ⟨q, 0, none⟩ = some (.int .i64 m.kind) ∧ (W.setCell ⟨g, 0, none⟩ v).cell? ⟨q, 1, none⟩ = some (.int .i64 m.from_) ∧ (W.setCell ⟨g, 0, none⟩ v).cell? ⟨q, 2, none⟩ = some (.int .i64 m.to_) ∧ (W.setCell ⟨g, 0, none⟩ v).cell? ⟨q, 3, none⟩ = some (.int .i64 m.term) ∧ (W.setCell ⟨g, 0, none⟩ v).cell? ⟨q, 4, none⟩ = some (.int .i64 m.index) ∧ (W.setCell ⟨g, 0, none⟩ v).cell? ⟨q, 5, none⟩ = some (.int .i64 m.logTerm) ∧ (W.setCell ⟨g, 0, none⟩ v).cell? ⟨q, 6, none⟩ = some (.int .i64 m.commit) ∧ (W.setCell ⟨g, 0, none⟩ v).cell? ⟨q, 7, none⟩ = some (.int .i64 m.round) ∧ (W.setCell ⟨g, 0, none⟩ v).cell? ⟨q, 8, none⟩ = some (.bool m.yes) ∧ (W.setCell ⟨g, 0, none⟩ v).cell? ⟨q, 9, none⟩ = some (.bool m.done) ∧ (W.setCell ⟨g, 0, none⟩ v).cell? ⟨q, 10, none⟩ = some (.slice Ae m.entries.length ce) ∧ (W.setCell ⟨g, 0, none⟩ v).cell? ⟨q, 11, none⟩ = some (.slice Av m.voters.length cv) ∧ (W.setCell ⟨g, 0, none⟩ v).cell? ⟨q, 12, none⟩ = some (.slice Ad m.data.length cd) by rw [hST]; exact fun W v h => by have h2 := (heap_setCell_other W ⟨g, 0, none⟩ q v hqg).trans h.2; exact ⟨cell_blk h2 0, cell_blk h2 1, cell_blk h2 2, cell_blk h2 3, cell_blk h2 4, cell_blk h2 5, cell_blk h2 6, cell_blk h2 7, cell_blk h2 8, cell_blk h2 9, cell_blk h2 10, cell_blk h2 11, cell_blk h2 12⟩)
  obtain ⟨w0, hw0⟩ : ∃ W, W = w.drew := ⟨_, rfl⟩
  have e0 := Lib.hid (show Ext w w0 by rw [hw0]; exact (Ext.refl w).drew)
  have st0 := Lib.hid (show ST w0 by rw [hw0, hST]; exact ⟨hb.out, hq.out⟩)
  have z0 := Lib.hid (show w0.heap.size = w.heap.size by rw [hw0]; rfl)
  clear hK hST
  refine wpF_region (fun W => W.cell? ⟨q, 0, none⟩ = some (.int .i64 m.kind) ∧ W.cell? ⟨q, 1, none⟩ = some (.int .i64 m.from_) ∧ W.cell? ⟨q, 2, none⟩ = some (.int .i64 m.to_) ∧ W.cell? ⟨q, 3, none⟩ = some (.int .i64 m.term) ∧ W.cell? ⟨q, 4, none⟩ = some (.int .i64 m.index) ∧ W.cell? ⟨q, 5, none⟩ = some (.int .i64 m.logTerm) ∧ W.cell? ⟨q, 6, none⟩ = some (.int .i64 m.commit) ∧ W.cell? ⟨q, 7, none⟩ = some (.int .i64 m.round) ∧ W.cell? ⟨q, 8, none⟩ = some (.bool m.yes) ∧ W.cell? ⟨q, 9, none⟩ = some (.bool m.done) ∧ W.cell? ⟨q, 10, none⟩ = some (.slice Ae m.entries.length ce) ∧ W.cell? ⟨q, 11, none⟩ = some (.slice Av m.voters.length cv) ∧ W.cell? ⟨q, 12, none⟩ = some (.slice Ad m.data.length cd)) (fun W => W.cell? ⟨g, 0, none⟩ = some (.slice A s.ms.length c)) 6 13 (by kernel_rfl) (by kernel_rfl) ?_
  rw [← hw0]
  clear hw0
  refine wpF_take0 (i := 0) (v := ?v1) rfl (by kernel_rfl) (by kernel_rfl) (by kernel_rfl) (fun _ _ _ h => h) (by kernel_rfl) (Or.inl ⟨by rfl, ?hy1⟩) (HS0.out _ st0.out) (fun _ => HS1.out _ st0.out) ?rest1
  case hy1 => (intro W hSW; (try dsimp only at hSW); go_simp; (try with_reducible rfl))
  (try simp only [Act.put, List.setIfInBounds_toArray, List.set_cons_zero, List.set_cons_succ])
  refine wpF_take0 (i := 2) (v := ?v2) rfl (by kernel_rfl) (by kernel_rfl) (by kernel_rfl) (fun _ _ _ h => h) (by kernel_rfl) (Or.inl ⟨by rfl, ?hy2⟩) (HS0.out _ st0.out) (fun _ => HS1.out _ st0.out) ?rest2
  case hy2 => (intro W hSW; (try dsimp only at hSW); go_simp; (try with_reducible rfl))
  (try simp only [Act.put, List.setIfInBounds_toArray, List.set_cons_zero, List.set_cons_succ])
  refine wpF_take0 (i := 3) (v := ?v3) rfl (by kernel_rfl) (by kernel_rfl) (by kernel_rfl) (fun _ _ _ h => h) (by kernel_rfl) (Or.inl ⟨by rfl, ?hy3⟩) (HS0.out _ st0.out) (fun _ => HS1.out _ st0.out) ?rest3
  case hy3 => (intro W hSW; (try dsimp only at hSW); go_simp; (try with_reducible rfl))
  (try simp only [Act.put, List.setIfInBounds_toArray, List.set_cons_zero, List.set_cons_succ])
  refine wpF_take0 (i := 4) (v := ?v4) rfl (by kernel_rfl) (by kernel_rfl) (by kernel_rfl) (fun _ _ _ h => h) (by kernel_rfl) (Or.inl ⟨by rfl, ?hy4⟩) (HS0.out _ st0.out) (fun _ => HS1.out _ st0.out) ?rest4
  case hy4 => (intro W hSW; (try dsimp only at hSW); go_simp; (try with_reducible rfl))
  (try simp only [Act.put, List.setIfInBounds_toArray, List.set_cons_zero, List.set_cons_succ])
  refine wpF_take1 (i := 5) (v := ?v5) rfl (by kernel_rfl) (by kernel_rfl) (by kernel_rfl) (fun _ _ _ h => h) (by kernel_rfl) (by kernel_rfl) (by kernel_rfl) (Or.inl ⟨by rfl, ?hy5⟩) (HS0.out _ st0.out) (fun _ => HS1.out _ st0.out) ?rest5
  case hy5 => (intro W hSW; (try dsimp only at hSW); go_simp; (try with_reducible rfl))
  (try simp only [Act.put, List.setIfInBounds_toArray, List.set_cons_zero, List.set_cons_succ])
  refine wpF_take0 (i := 7) (v := ?v6) rfl (by kernel_rfl) (by kernel_rfl) (by kernel_rfl) (fun _ _ _ h => h) (by kernel_rfl) (Or.inl ⟨by rfl, ?hy6⟩) (HS0.out _ st0.out) (fun _ => HS1.out _ st0.out) ?rest6
  case hy6 => (intro W hSW; (try dsimp only at hSW); go_simp; (try with_reducible rfl))
  (try simp only [Act.put, List.setIfInBounds_toArray, List.set_cons_zero, List.set_cons_succ])
  refine wpF_step2 (i := 1) (j := 8) (by kernel_rfl) rfl rfl (fun K hK => ?_) (fun K hK => ?_)
  · go_simp
    obtain ⟨w1, hw1⟩ : ∃ W, W = w0.alloc (.cells #[] 26) := ⟨_, rfl⟩
    have x1 := Lib.hid (show Ext w0 w1 by rw [hw1]; exact (Ext.refl _).alloc _)
    have tE0 := Lib.hid (show w1.heap[w0.heap.size]? = some (.cells #[] 26) by rw [hw1]; exact heap_new w0 _ rfl _)
    have z1 := Lib.hid (show w1.heap.size = w0.heap.size + 1 by rw [hw1]; simp)
    have st1 := Lib.hid (HEXT.out _ _ st0.out x1.out)
    have e1 := Lib.hid (e0.out.trans x1.out)
    (try unfold msgC at hw1)
    rw [← hw1]
    clear hw1
    refine hK.out _ _ (HS0.out _ st1.out) (fun _ => HS1.out _ st1.out) ?_
    clear hK K
    (try simp only [Act.put, List.setIfInBounds_toArray, List.set_cons_zero, List.set_cons_succ])
    obtain ⟨b33, hb33⟩ : ∃ b, b = w0.heap.size := ⟨_, rfl⟩
    rw [← hb33]
    have HB33 := Lib.hid hb33
    clear hb33
    have oE1 := Lib.hid (show Ow kMsg 26 w1 w.heap.size (fun b => w.heap.size ≤ b ∨ B b) (.slice (some ⟨b33, 0, none⟩) 0 0) [] from Ow.mt (by rw [HB33.out]; exact tE0.out) (by rw [HB33.out]; exact e0.out.le) (.inl (by rw [HB33.out]; exact e0.out.le)))
    refine wpF_step2 (i := 6) (j := 8) (by kernel_rfl) rfl rfl (fun K hK => ?_) (fun K hK => ?_)
    · refine step_append_Rs kMsg 38 rfl rfl (.tmp 33) (.tmp 37) 28 26 rfl tMsgs w.heap.size _ _ [] (s.ms) (fun b => w.heap.size ≤ b ∨ B b) (fun b => B b ∧ b < w.heap.size) rfl rfl oE1.out (HB.out.ext e1.out) (fun y cs hy => kMsg.mono (fun b hb => ⟨.inr hb.1, fun e => by have e' : some b = some b33 := e; injection e' with e'; have h1 := HB33.out; have h2 := hb.2; have h3 := e0.out.le; omega⟩) hy) (fun b hb => .inl (Nat.le_trans e1.out.le hb)) HSZ.out.1 e1.out.le ?_
      intro vA w2 ho2 hg2 hq2
      rw [List.nil_append] at ho2
      have oA2 := Lib.hid ho2
      have qA := Lib.hid (show vA.ownBlock = some b33 ∨ vA.ownBlock = some w1.heap.size from hq2)
      have qL := Lib.hid (show ∀ k, vA.ownBlock = some k → k < w2.heap.size from oA2.out.lt)
      have hr33 : ∀ k, (.slice (some ⟨b33, 0, none⟩) 0 0 : Value).ownBlock = some k → w.heap.size ≤ k := fun k hk => by have e' : some b33 = some k := hk; injection e' with e'; have h1 := HB33.out; have h3 := e0.out.le; omega
      have st2 := Lib.hid (HGR.out _ _ _ st1.out hg2 hr33)
      have e2 := Lib.hid (e1.out.grown hg2 hr33)
      have zA := Lib.hid (show w1.heap.size ≤ w2.heap.size from hg2.size)
      obtain ⟨AA, xA, mA, eA⟩ : ∃ A x m, vA = .slice A x m := by obtain ⟨A, c, e, _⟩ := id oA2.out.rs; exact ⟨_, _, _, e⟩
      subst eA
      clear ho2 hg2 hq2 hr33
      refine hK.out _ _ (HS0.out _ st2.out) (gone (by kernel_rfl)) ?_
      clear hK K
      (try simp only [Act.put, List.setIfInBounds_toArray, List.set_cons_zero, List.set_cons_succ])
      refine wpF_step (i := 8) (by kernel_rfl) rfl (fun K hK => ?_)
      go_simp
      obtain ⟨w3, hw3⟩ : ∃ W, W = w2.alloc (.cells (msgC m (.slice Ae m.entries.length ce) (.slice Av m.voters.length cv) (.slice Ad m.data.length cd)) 26) := ⟨_, rfl⟩
      have x3 := Lib.hid (show Ext w2 w3 by rw [hw3]; exact (Ext.refl _).alloc _)
      have tL2 := Lib.hid (show w3.heap[w2.heap.size]? = some (.cells (msgC m (.slice Ae m.entries.length ce) (.slice Av m.voters.length cv) (.slice Ad m.data.length cd)) 26) by rw [hw3]; exact heap_new w2 _ rfl _)
      have z3 := Lib.hid (show w3.heap.size = w2.heap.size + 1 by rw [hw3]; simp)
      have st3 := Lib.hid (HEXT.out _ _ st2.out x3.out)
      have e3 := Lib.hid (e2.out.trans x3.out)
      (try unfold msgC at hw3)
      rw [← hw3]
      clear hw3
      refine hK.out _ _ (HS0.out _ st3.out) (gone (by kernel_rfl)) ?_
      clear hK K
      (try simp only [Act.put, List.setIfInBounds_toArray, List.set_cons_zero, List.set_cons_succ])
      obtain ⟨h40, hh40⟩ : ∃ b, b = w2.heap.size := ⟨_, rfl⟩
      rw [← hh40]
      have HH40 := Lib.hid hh40
      clear hh40
      have rL3 := Lib.hid (show Rs kMsg w3 (fun b => b = h40 ∨ (T b ∧ b < w.heap.size)) (.slice (some ⟨h40, 0, none⟩) 1 1) [m] from Rs.one_msg (by rw [HH40.out]; exact tL2.out) (.inl rfl) (((hm.out.bound).ext e3.out).mono (fun b hb => .inr hb)))
      have oA3 := Lib.hid (oA2.out.ext x3.out)
      have hdist := Lib.hid (show ∀ b, (b = h40 ∨ (T b ∧ b < w.heap.size)) → (w.heap.size ≤ b ∨ B b ∨ T b) ∧ some b ≠ (.slice AA xA mA : Value).ownBlock from fun b hb => by
        have qq := qA.out
        have h1 := HB33.out; have h2 := HH40.out; have h3 := zA.out; have h4 := z1.out; have h5 := e0.out.le; have h6 := z0.out
        refine ⟨?_, fun e => ?_⟩
        · rcases hb with hb | hb
          · left; omega
          · exact .inr (.inr hb.1)
        · have h8 := qL.out b e.symm
          rw [← e] at qq
          rcases qq with qq | qq <;> (injection qq with qq; rcases hb with hb | hb <;> omega))
      refine wpF_step (i := 9) (by kernel_rfl) rfl (fun K hK => ?_)
      refine step_append_Rs kMsg 41 rfl rfl (.tmp 38) (.tmp 40) 28 26 rfl tMsgs w.heap.size _ _ (s.ms) [m] (fun b => w.heap.size ≤ b ∨ B b ∨ T b) _ rfl rfl (oA3.out.mono (fun b hb => hb.elim .inl (fun h => .inr (.inl h)))) rL3.out (fun y cs hy => kMsg.mono hdist.out hy) (fun b hb => .inl (Nat.le_trans e3.out.le hb)) HSZ.out.2 e3.out.le ?_
      intro vO w4 ho4 hg4 _
      have hrA : ∀ k, (.slice AA xA mA : Value).ownBlock = some k → w.heap.size ≤ k := fun k hk => oA3.out.from_ k hk
      have st4 := Lib.hid (HGR.out _ _ _ st3.out hg4 hrA)
      have e4 := Lib.hid (e3.out.grown hg4 hrA)
      have rO := Lib.hid ho4.rs
      obtain ⟨AO, nO, cO, eO⟩ : ∃ A n c, vO = .slice A n c := by obtain ⟨A, c, e, _⟩ := id ho4.rs; exact ⟨_, _, _, e⟩
      subst eO
      clear ho4 hg4 hrA
      refine hK.out _ _ (HS0.out _ st4.out) (gone (by kernel_rfl)) ?_
      clear hK K
      (try simp only [Act.put, List.setIfInBounds_toArray, List.set_cons_zero, List.set_cons_succ])
      refine wpF_take0 (i := 10) (v := ?v7) rfl (by kernel_rfl) (by kernel_rfl) (by kernel_rfl) (fun _ _ _ h => h) (by kernel_rfl) (Or.inl ⟨by rfl, ?hy7⟩) (HS0.out _ st4.out) (gone (by kernel_rfl)) ?rest7
      case hy7 => (intro W hSW; (try dsimp only at hSW); go_simp; (try with_reducible rfl))
      (try simp only [Act.put, List.setIfInBounds_toArray, List.set_cons_zero, List.set_cons_succ])
      refine wpF_take0 (i := 11) (v := ?v8) rfl (by kernel_rfl) (by kernel_rfl) (by kernel_rfl) (fun _ _ _ h => h) (by kernel_rfl) (Or.inl ⟨by rfl, ?hy8⟩) (HS0.out _ st4.out) (gone (by kernel_rfl)) ?rest8
      case hy8 => (intro W hSW; (try dsimp only at hSW); go_simp; (try with_reducible rfl))
      (try simp only [Act.put, List.setIfInBounds_toArray, List.set_cons_zero, List.set_cons_succ])
      have hcs := cell_blk (HBK.out _ st4.out) 0
      have hfs := frozen_blk (HBK.out _ st4.out) 0
      simp only [List.getElem?_toArray, List.getElem?_cons_zero, List.getElem?_cons_succ] at hcs
      have hbn := Lib.hid (heap_setCell_same w4 g 0 _ _ (.slice AO nO cO) (HBK.out _ st4.out))
      refine wpF_step (i := 12) (by kernel_rfl) rfl (fun K hK => ?_)
      go_simp
      refine hK.out _ _ (HST0.out _ _ st4.out) (gone (by kernel_rfl)) ?_
      clear hK K hcs hfs
      (try simp only [Act.put, List.setIfInBounds_toArray, List.set_cons_zero, List.set_cons_succ])
      refine wpF_done (by kernel_rfl) ?_ _
      refine NoPanic.normal ?_
      have hnO := rO.out.shape.1
      subst hnO
      exact hK2.out _ _ _ _ _ _ _ _ _ _ _ _ _  (Lib.hid ⟨_, _, hbn.out, rO.out.seti (g := g) (i := 0) (fun h => by have h1 := HGL.out; rcases h with h | h | h; omega; exact hB h; exact hT h) _, (e4.out.upd (fun b => b = g)).set (S := fun b => b = g) (.inl rfl) _⟩)
    · go_simp
      obtain ⟨w5, hw5⟩ : ∃ W, W = w1.alloc (.cells (msgC m (.slice Ae m.entries.length ce) (.slice Av m.voters.length cv) (.slice Ad m.data.length cd)) 26) := ⟨_, rfl⟩
      have x5 := Lib.hid (show Ext w1 w5 by rw [hw5]; exact (Ext.refl _).alloc _)
      have tL4 := Lib.hid (show w5.heap[w1.heap.size]? = some (.cells (msgC m (.slice Ae m.entries.length ce) (.slice Av m.voters.length cv) (.slice Ad m.data.length cd)) 26) by rw [hw5]; exact heap_new w1 _ rfl _)
      have z5 := Lib.hid (show w5.heap.size = w1.heap.size + 1 by rw [hw5]; simp)
      have st5 := Lib.hid (HEXT.out _ _ st1.out x5.out)
      have e5 := Lib.hid (e1.out.trans x5.out)
      (try unfold msgC at hw5)
      rw [← hw5]
      clear hw5
      refine hK.out _ _ (HS0.out _ st5.out) (fun _ => HS1.out _ st5.out) ?_
      clear hK K
      (try simp only [Act.put, List.setIfInBounds_toArray, List.set_cons_zero, List.set_cons_succ])
      obtain ⟨h40, hh40⟩ : ∃ b, b = w1.heap.size := ⟨_, rfl⟩
      rw [← hh40]
      have HH40 := Lib.hid hh40
      clear hh40
      have rL5 := Lib.hid (show Rs kMsg w5 (fun b => b = h40 ∨ (T b ∧ b < w.heap.size)) (.slice (some ⟨h40, 0, none⟩) 1 1) [m] from Rs.one_msg (by rw [HH40.out]; exact tL4.out) (.inl rfl) (((hm.out.bound).ext e5.out).mono (fun b hb => .inr hb)))
      have oE5 := Lib.hid (oE1.out.ext x5.out)
      refine wpF_step (i := 6) (by kernel_rfl) rfl (fun K hK => ?_)
      refine step_append_Rs kMsg 38 rfl rfl (.tmp 33) (.tmp 37) 28 26 rfl tMsgs w.heap.size _ _ [] (s.ms) (fun b => w.heap.size ≤ b ∨ B b) (fun b => B b ∧ b < w.heap.size) rfl rfl oE5.out (HB.out.ext e5.out) (fun y cs hy => kMsg.mono (fun b hb => ⟨.inr hb.1, fun e => by have e' : some b = some b33 := e; injection e' with e'; have h1 := HB33.out; have h2 := hb.2; have h3 := e0.out.le; omega⟩) hy) (fun b hb => .inl (Nat.le_trans e5.out.le hb)) HSZ.out.1 e5.out.le ?_
      intro vA w6 ho6 hg6 hq6
      rw [List.nil_append] at ho6
      have oA6 := Lib.hid ho6
      have qA := Lib.hid (show vA.ownBlock = some b33 ∨ vA.ownBlock = some w5.heap.size from hq6)
      have qL := Lib.hid (show ∀ k, vA.ownBlock = some k → k < w6.heap.size from oA6.out.lt)
      have hr33 : ∀ k, (.slice (some ⟨b33, 0, none⟩) 0 0 : Value).ownBlock = some k → w.heap.size ≤ k := fun k hk => by have e' : some b33 = some k := hk; injection e' with e'; have h1 := HB33.out; have h3 := e0.out.le; omega
      have st6 := Lib.hid (HGR.out _ _ _ st5.out hg6 hr33)
      have e6 := Lib.hid (e5.out.grown hg6 hr33)
      have zA := Lib.hid (show w5.heap.size ≤ w6.heap.size from hg6.size)
      have rL6 := Lib.hid (rL5.out.grown hg6 (fun k hk hn => by have e' : some b33 = some k := hk; injection e' with e'; have h1 := HB33.out; have h2 := HH40.out; have h3 := e0.out.le; have h4 := e1.out.le; have h9 := z1.out; rcases hn with hn | hn <;> omega))
      obtain ⟨AA, xA, mA, eA⟩ : ∃ A x m, vA = .slice A x m := by obtain ⟨A, c, e, _⟩ := id oA6.out.rs; exact ⟨_, _, _, e⟩
      subst eA
      clear ho6 hg6 hq6 hr33
      refine hK.out _ _ (HS0.out _ st6.out) (gone (by kernel_rfl)) ?_
      clear hK K
      (try simp only [Act.put, List.setIfInBounds_toArray, List.set_cons_zero, List.set_cons_succ])
      have hdist := Lib.hid (show ∀ b, (b = h40 ∨ (T b ∧ b < w.heap.size)) → (w.heap.size ≤ b ∨ B b ∨ T b) ∧ some b ≠ (.slice AA xA mA : Value).ownBlock from fun b hb => by
        have qq := qA.out
        have h1 := HB33.out; have h2 := HH40.out; have h3 := zA.out; have h4 := z1.out; have h7 := z5.out; have h5 := e0.out.le; have h6 := z0.out
        refine ⟨?_, fun e => ?_⟩
        · rcases hb with hb | hb
          · left; omega
          · exact .inr (.inr hb.1)
        · have h8 := qL.out b e.symm
          rw [← e] at qq
          rcases qq with qq | qq <;> (injection qq with qq; rcases hb with hb | hb <;> omega))
      refine wpF_step (i := 9) (by kernel_rfl) rfl (fun K hK => ?_)
      refine step_append_Rs kMsg 41 rfl rfl (.tmp 38) (.tmp 40) 28 26 rfl tMsgs w.heap.size _ _ (s.ms) [m] (fun b => w.heap.size ≤ b ∨ B b ∨ T b) _ rfl rfl (oA6.out.mono (fun b hb => hb.elim .inl (fun h => .inr (.inl h)))) rL6.out (fun y cs hy => kMsg.mono hdist.out hy) (fun b hb => .inl (Nat.le_trans e6.out.le hb)) HSZ.out.2 e6.out.le ?_
      intro vO w7 ho7 hg7 _
      have hrA : ∀ k, (.slice AA xA mA : Value).ownBlock = some k → w.heap.size ≤ k := fun k hk => oA6.out.from_ k hk
      have st7 := Lib.hid (HGR.out _ _ _ st6.out hg7 hrA)
      have e7 := Lib.hid (e6.out.grown hg7 hrA)
      have rO := Lib.hid ho7.rs
      obtain ⟨AO, nO, cO, eO⟩ : ∃ A n c, vO = .slice A n c := by obtain ⟨A, c, e, _⟩ := id ho7.rs; exact ⟨_, _, _, e⟩
      subst eO
      clear ho7 hg7 hrA
      refine hK.out _ _ (HS0.out _ st7.out) (gone (by kernel_rfl)) ?_
      clear hK K
      (try simp only [Act.put, List.setIfInBounds_toArray, List.set_cons_zero, List.set_cons_succ])
      refine wpF_take0 (i := 10) (v := ?v9) rfl (by kernel_rfl) (by kernel_rfl) (by kernel_rfl) (fun _ _ _ h => h) (by kernel_rfl) (Or.inl ⟨by rfl, ?hy9⟩) (HS0.out _ st7.out) (gone (by kernel_rfl)) ?rest9
      case hy9 => (intro W hSW; (try dsimp only at hSW); go_simp; (try with_reducible rfl))
      (try simp only [Act.put, List.setIfInBounds_toArray, List.set_cons_zero, List.set_cons_succ])
      refine wpF_take0 (i := 11) (v := ?v10) rfl (by kernel_rfl) (by kernel_rfl) (by kernel_rfl) (fun _ _ _ h => h) (by kernel_rfl) (Or.inl ⟨by rfl, ?hy10⟩) (HS0.out _ st7.out) (gone (by kernel_rfl)) ?rest10
      case hy10 => (intro W hSW; (try dsimp only at hSW); go_simp; (try with_reducible rfl))
      (try simp only [Act.put, List.setIfInBounds_toArray, List.set_cons_zero, List.set_cons_succ])
      have hcs := cell_blk (HBK.out _ st7.out) 0
      have hfs := frozen_blk (HBK.out _ st7.out) 0
      simp only [List.getElem?_toArray, List.getElem?_cons_zero, List.getElem?_cons_succ] at hcs
      have hbn := Lib.hid (heap_setCell_same w7 g 0 _ _ (.slice AO nO cO) (HBK.out _ st7.out))
      refine wpF_step (i := 12) (by kernel_rfl) rfl (fun K hK => ?_)
      go_simp
      refine hK.out _ _ (HST0.out _ _ st7.out) (gone (by kernel_rfl)) ?_
      clear hK K hcs hfs
      (try simp only [Act.put, List.setIfInBounds_toArray, List.set_cons_zero, List.set_cons_succ])
      refine wpF_done (by kernel_rfl) ?_ _
      refine NoPanic.normal ?_
      have hnO := rO.out.shape.1
      subst hnO
      exact hK2.out _ _ _ _ _ _ _ _ _ _ _ _ _  (Lib.hid ⟨_, _, hbn.out, rO.out.seti (g := g) (i := 0) (fun h => by have h1 := HGL.out; rcases h with h | h | h; omega; exact hB h; exact hT h) _, (e7.out.upd (fun b => b = g)).set (S := fun b => b = g) (.inl rfl) _⟩)
  · go_simp
    obtain ⟨w8, hw8⟩ : ∃ W, W = w0.alloc (.cells (msgC m (.slice Ae m.entries.length ce) (.slice Av m.voters.length cv) (.slice Ad m.data.length cd)) 26) := ⟨_, rfl⟩
    have x8 := Lib.hid (show Ext w0 w8 by rw [hw8]; exact (Ext.refl _).alloc _)
    have tL7 := Lib.hid (show w8.heap[w0.heap.size]? = some (.cells (msgC m (.slice Ae m.entries.length ce) (.slice Av m.voters.length cv) (.slice Ad m.data.length cd)) 26) by rw [hw8]; exact heap_new w0 _ rfl _)
    have z8 := Lib.hid (show w8.heap.size = w0.heap.size + 1 by rw [hw8]; simp)
    have st8 := Lib.hid (HEXT.out _ _ st0.out x8.out)
    have e8 := Lib.hid (e0.out.trans x8.out)
    (try unfold msgC at hw8)
    rw [← hw8]
    clear hw8
    refine hK.out _ _ (HS0.out _ st8.out) (fun _ => HS1.out _ st8.out) ?_
    clear hK K
    (try simp only [Act.put, List.setIfInBounds_toArray, List.set_cons_zero, List.set_cons_succ])
    obtain ⟨h40, hh40⟩ : ∃ b, b = w0.heap.size := ⟨_, rfl⟩
    rw [← hh40]
    have HH40 := Lib.hid hh40
    clear hh40
    have rL8 := Lib.hid (show Rs kMsg w8 (fun b => b = h40 ∨ (T b ∧ b < w.heap.size)) (.slice (some ⟨h40, 0, none⟩) 1 1) [m] from Rs.one_msg (by rw [HH40.out]; exact tL7.out) (.inl rfl) (((hm.out.bound).ext e8.out).mono (fun b hb => .inr hb)))
    refine wpF_step (i := 1) (by kernel_rfl) rfl (fun K hK => ?_)
    go_simp
    obtain ⟨w9, hw9⟩ : ∃ W, W = w8.alloc (.cells #[] 26) := ⟨_, rfl⟩
    have x9 := Lib.hid (show Ext w8 w9 by rw [hw9]; exact (Ext.refl _).alloc _)
    have tE8 := Lib.hid (show w9.heap[w8.heap.size]? = some (.cells #[] 26) by rw [hw9]; exact heap_new w8 _ rfl _)
    have z9 := Lib.hid (show w9.heap.size = w8.heap.size + 1 by rw [hw9]; simp)
    have st9 := Lib.hid (HEXT.out _ _ st8.out x9.out)
    have e9 := Lib.hid (e8.out.trans x9.out)
    (try unfold msgC at hw9)
    rw [← hw9]
    clear hw9
    refine hK.out _ _ (HS0.out _ st9.out) (fun _ => HS1.out _ st9.out) ?_
    clear hK K
    (try simp only [Act.put, List.setIfInBounds_toArray, List.set_cons_zero, List.set_cons_succ])
    obtain ⟨b33, hb33⟩ : ∃ b, b = w8.heap.size := ⟨_, rfl⟩
    rw [← hb33]
    have HB33 := Lib.hid hb33
    clear hb33
    have oE9 := Lib.hid (show Ow kMsg 26 w9 w.heap.size (fun b => w.heap.size ≤ b ∨ B b) (.slice (some ⟨b33, 0, none⟩) 0 0) [] from Ow.mt (by rw [HB33.out]; exact tE8.out) (by rw [HB33.out]; exact e8.out.le) (.inl (by rw [HB33.out]; exact e8.out.le)))
    have rL9 := Lib.hid (rL8.out.ext x9.out)
    refine wpF_step (i := 6) (by kernel_rfl) rfl (fun K hK => ?_)
    refine step_append_Rs kMsg 38 rfl rfl (.tmp 33) (.tmp 37) 28 26 rfl tMsgs w.heap.size _ _ [] (s.ms) (fun b => w.heap.size ≤ b ∨ B b) (fun b => B b ∧ b < w.heap.size) rfl rfl oE9.out (HB.out.ext e9.out) (fun y cs hy => kMsg.mono (fun b hb => ⟨.inr hb.1, fun e => by have e' : some b = some b33 := e; injection e' with e'; have h1 := HB33.out; have h2 := hb.2; have h3 := e8.out.le; omega⟩) hy) (fun b hb => .inl (Nat.le_trans e9.out.le hb)) HSZ.out.1 e9.out.le ?_
    intro vA w10 ho10 hg10 hq10
    rw [List.nil_append] at ho10
    have oA10 := Lib.hid ho10
    have qA := Lib.hid (show vA.ownBlock = some b33 ∨ vA.ownBlock = some w9.heap.size from hq10)
    have qL := Lib.hid (show ∀ k, vA.ownBlock = some k → k < w10.heap.size from oA10.out.lt)
    have hr33 : ∀ k, (.slice (some ⟨b33, 0, none⟩) 0 0 : Value).ownBlock = some k → w.heap.size ≤ k := fun k hk => by have e' : some b33 = some k := hk; injection e' with e'; have h1 := HB33.out; have h3 := e8.out.le; omega
    have st10 := Lib.hid (HGR.out _ _ _ st9.out hg10 hr33)
    have e10 := Lib.hid (e9.out.grown hg10 hr33)
    have zA := Lib.hid (show w9.heap.size ≤ w10.heap.size from hg10.size)
    have rL10 := Lib.hid (rL9.out.grown hg10 (fun k hk hn => by have e' : some b33 = some k := hk; injection e' with e'; have h1 := HB33.out; have h2 := HH40.out; have h3 := e8.out.le; have h4 := e0.out.le; have h9 := z8.out; rcases hn with hn | hn <;> omega))
    obtain ⟨AA, xA, mA, eA⟩ : ∃ A x m, vA = .slice A x m := by obtain ⟨A, c, e, _⟩ := id oA10.out.rs; exact ⟨_, _, _, e⟩
    subst eA
    clear ho10 hg10 hq10 hr33
    refine hK.out _ _ (HS0.out _ st10.out) (gone (by kernel_rfl)) ?_
    clear hK K
    (try simp only [Act.put, List.setIfInBounds_toArray, List.set_cons_zero, List.set_cons_succ])
    have hdist := Lib.hid (show ∀ b, (b = h40 ∨ (T b ∧ b < w.heap.size)) → (w.heap.size ≤ b ∨ B b ∨ T b) ∧ some b ≠ (.slice AA xA mA : Value).ownBlock from fun b hb => by
      have qq := qA.out
      have h1 := HB33.out; have h2 := HH40.out; have h3 := zA.out; have h4 := z8.out; have h7 := z9.out; have h5 := e0.out.le; have h6 := z0.out
      refine ⟨?_, fun e => ?_⟩
      · rcases hb with hb | hb
        · left; omega
        · exact .inr (.inr hb.1)
      · have h8 := qL.out b e.symm
        rw [← e] at qq
        rcases qq with qq | qq <;> (injection qq with qq; rcases hb with hb | hb <;> omega))
    refine wpF_step (i := 9) (by kernel_rfl) rfl (fun K hK => ?_)
    refine step_append_Rs kMsg 41 rfl rfl (.tmp 38) (.tmp 40) 28 26 rfl tMsgs w.heap.size _ _ (s.ms) [m] (fun b => w.heap.size ≤ b ∨ B b ∨ T b) _ rfl rfl (oA10.out.mono (fun b hb => hb.elim .inl (fun h => .inr (.inl h)))) rL10.out (fun y cs hy => kMsg.mono hdist.out hy) (fun b hb => .inl (Nat.le_trans e10.out.le hb)) HSZ.out.2 e10.out.le ?_
    intro vO w11 ho11 hg11 _
    have hrA : ∀ k, (.slice AA xA mA : Value).ownBlock = some k → w.heap.size ≤ k := fun k hk => oA10.out.from_ k hk
    have st11 := Lib.hid (HGR.out _ _ _ st10.out hg11 hrA)
    have e11 := Lib.hid (e10.out.grown hg11 hrA)
    have rO := Lib.hid ho11.rs
    obtain ⟨AO, nO, cO, eO⟩ : ∃ A n c, vO = .slice A n c := by obtain ⟨A, c, e, _⟩ := id ho11.rs; exact ⟨_, _, _, e⟩
    subst eO
    clear ho11 hg11 hrA
    refine hK.out _ _ (HS0.out _ st11.out) (gone (by kernel_rfl)) ?_
    clear hK K
    (try simp only [Act.put, List.setIfInBounds_toArray, List.set_cons_zero, List.set_cons_succ])
    refine wpF_take0 (i := 10) (v := ?v11) rfl (by kernel_rfl) (by kernel_rfl) (by kernel_rfl) (fun _ _ _ h => h) (by kernel_rfl) (Or.inl ⟨by rfl, ?hy11⟩) (HS0.out _ st11.out) (gone (by kernel_rfl)) ?rest11
    case hy11 => (intro W hSW; (try dsimp only at hSW); go_simp; (try with_reducible rfl))
    (try simp only [Act.put, List.setIfInBounds_toArray, List.set_cons_zero, List.set_cons_succ])
    refine wpF_take0 (i := 11) (v := ?v12) rfl (by kernel_rfl) (by kernel_rfl) (by kernel_rfl) (fun _ _ _ h => h) (by kernel_rfl) (Or.inl ⟨by rfl, ?hy12⟩) (HS0.out _ st11.out) (gone (by kernel_rfl)) ?rest12
    case hy12 => (intro W hSW; (try dsimp only at hSW); go_simp; (try with_reducible rfl))
    (try simp only [Act.put, List.setIfInBounds_toArray, List.set_cons_zero, List.set_cons_succ])
    have hcs := cell_blk (HBK.out _ st11.out) 0
    have hfs := frozen_blk (HBK.out _ st11.out) 0
    simp only [List.getElem?_toArray, List.getElem?_cons_zero, List.getElem?_cons_succ] at hcs
    have hbn := Lib.hid (heap_setCell_same w11 g 0 _ _ (.slice AO nO cO) (HBK.out _ st11.out))
    refine wpF_step (i := 12) (by kernel_rfl) rfl (fun K hK => ?_)
    go_simp
    refine hK.out _ _ (HST0.out _ _ st11.out) (gone (by kernel_rfl)) ?_
    clear hK K hcs hfs
    (try simp only [Act.put, List.setIfInBounds_toArray, List.set_cons_zero, List.set_cons_succ])
    refine wpF_done (by kernel_rfl) ?_ _
    refine NoPanic.normal ?_
    have hnO := rO.out.shape.1
    subst hnO
    exact hK2.out _ _ _ _ _ _ _ _ _ _ _ _ _  (Lib.hid ⟨_, _, hbn.out, rO.out.seti (g := g) (i := 0) (fun h => by have h1 := HGL.out; rcases h with h | h | h; omega; exact hB h; exact hT h) _, (e11.out.upd (fun b => b = g)).set (S := fun b => b = g) (.inl rfl) _⟩)

set_option maxRecDepth 1000000 in
set_option maxHeartbeats 4000000 in
theorem rs8 {K : Act → World → Prop} {Q : Exit → Act → World → Prop} {w : World} {c1 c2 c3 c4 c5 c6 c7 c8 c9 c10 c11 c12 c13 c14 c15 c16 c17 c18 c19 c20 c21 c22 c23 c24 c25 c26 c27 c28 c29 c30 c31 c32 c33 c34 c35 c36 c37 c38 c39 c40 c41 c42 c43 c44 c45 c46 c47 c48 c49 c50 c51 c52 c53 c54 c55 c56 c57 c58 c59 c60 c61 c62 : Value} (g : Nat) (B T : Nat → Prop) (s : BagS) (A : Option Addr) (c : Nat) (v0 : Value) (hb : Hid (w.heap[g]? = some (.cells #[v0, .slice A s.ids.length c, .int .i64 (s.last + 1)] 50 (0, 0)))) (hr : Hid (Rs kInt w B (.slice A s.ids.length c) s.ids)) (hB : ¬ B g) (hT : ¬ T g) (hI : I64 (s.last + 1)) (h256 : s.ids.length ≤ 256)
    (hK : ∀ (u44 u45 u46 u47 u48 u49 u50 u51 u52 u53 u54 u55 u56 u57 u58 : Value) (wx : World), Hid (∃ A' c', wx.heap[g]? = some (.cells #[v0, .slice A' (s.ids ++ [s.last + 1]).length c', .int .i64 (s.last + 1)] 50 (0, 0)) ∧ Rs kInt wx (fun b => w.heap.size ≤ b ∨ B b ∨ T b) (.slice A' (s.ids ++ [s.last + 1]).length c') (s.ids ++ [s.last + 1]) ∧ Upd (fun b => b = g) w wx) → K ⟨#[.pointer (some ⟨g, 0, none⟩), c1, c2, c3, c4, c5, c6, c7, c8, c9, c10, c11, c12, c13, c14, c15, c16, c17, c18, c19, c20, c21, c22, c23, c24, c25, c26, c27, c28, c29, c30, c31, c32, c33, c34, c35, c36, c37, c38, c39, c40, c41, c42, c43, u44, u45, u46, u47, u48, u49, u50, u51, u52, u53, u54, u55, u56, u57, u58, c59, c60, c61, c62], []⟩ wx) :
    Code.wp Try.prog ((Try.f31.body.bind (regionAt 8)).getD .skip) (Exit.then K Q) ⟨#[.pointer (some ⟨g, 0, none⟩), c1, c2, c3, c4, c5, c6, c7, c8, c9, c10, c11, c12, c13, c14, c15, c16, c17, c18, c19, c20, c21, c22, c23, c24, c25, c26, c27, c28, c29, c30, c31, c32, c33, c34, c35, c36, c37, c38, c39, c40, c41, c42, c43, c44, c45, c46, c47, c48, c49, c50, c51, c52, c53, c54, c55, c56, c57, c58, c59, c60, c61, c62], []⟩ w := by
  conv => arg 2; whnf
  have hK2 := Lib.hid @hK
  obtain ⟨ST, hST⟩ : ∃ ST : World → Prop, ST = fun W => W.heap[g]? = some (.cells #[v0, .slice A s.ids.length c, .int .i64 (s.last + 1)] 50 (0, 0)) := ⟨_, rfl⟩
  have HS0 := Lib.hid (show ∀ W : World, ST W → W.cell? ⟨g, 2, none⟩ = some (.int .i64 (s.last + 1)) by rw [hST]; exact fun W h => cell_blk h 2)
  have HS1 := Lib.hid (show ∀ W : World, ST W → W.cell? ⟨g, 1, none⟩ = some (.slice A s.ids.length c) by rw [hST]; exact fun W h => cell_blk h 1)
  have HBK := Lib.hid (show ∀ W : World, ST W → W.heap[g]? = some (.cells #[v0, .slice A s.ids.length c, .int .i64 (s.last + 1)] 50 (0, 0)) by rw [hST]; exact fun W h => h)
  have HEXT := Lib.hid (show ∀ W W' : World, ST W → Ext W W' → ST W' by rw [hST]; exact fun W W' h hx => blk_ext h hx)
  have HGL := Lib.hid (show g < w.heap.size from blk_lt hb.out)
  have HB := Lib.hid (show Rs kInt w (fun b => B b ∧ b < w.heap.size) (.slice A s.ids.length c) s.ids from hr.out.bound)
  have HSZ := Lib.hid (show (([] : List Int).length + (s.ids).length) * 8 ≤ 140737488355328 ∧ ((s.ids).length + [s.last + 1].length) * 8 ≤ 140737488355328 by simp; omega)
  have HGR := Lib.hid (show ∀ (W W' : World) (r : Option Nat), ST W → W.grownBy W' r → (∀ k, r = some k → w.heap.size ≤ k) → ST W' by rw [hST]; exact fun W W' r h hg hr => (hg.block g (blk_lt h) (fun e => by have h1 := hr g e.symm; have h2 := HGL.out; omega)).trans h)
  have HST0 := Lib.hid (show ∀ (W : World) (v : Value), ST W → (W.setCell ⟨g, 1, none⟩ v).cell? ⟨g, 2, none⟩ = some (.int .i64 (s.last + 1)) by rw [hST]; exact fun W v h => cell_blk (heap_setCell_same W g 1 _ _ v h) 2)
  obtain ⟨w0, hw0⟩ : ∃ W, W = w.drew := ⟨_, rfl⟩
  have e0 := Lib.hid (show Ext w w0 by rw [hw0]; exact (Ext.refl w).drew)
  have st0 := Lib.hid (show ST w0 by rw [hw0, hST]; exact hb.out)
  have z0 := Lib.hid (show w0.heap.size = w.heap.size by rw [hw0]; rfl)
  clear hK hST
  refine wpF_region (fun W => W.cell? ⟨g, 2, none⟩ = some (.int .i64 (s.last + 1))) (fun W => W.cell? ⟨g, 1, none⟩ = some (.slice A s.ids.length c)) 6 16 (by kernel_rfl) (by kernel_rfl) ?_
  rw [← hw0]
  clear hw0
  refine wpF_take0 (i := 0) (v := ?v13) rfl (by kernel_rfl) (by kernel_rfl) (by kernel_rfl) (fun _ _ _ h => h) (by kernel_rfl) (Or.inl ⟨by rfl, ?hy13⟩) (HS0.out _ st0.out) (fun _ => HS1.out _ st0.out) ?rest13
  case hy13 => (intro W hSW; (try dsimp only at hSW); go_simp; (try with_reducible rfl))
  (try simp only [Act.put, List.setIfInBounds_toArray, List.set_cons_zero, List.set_cons_succ])
  refine wpF_take0 (i := 2) (v := ?v14) rfl (by kernel_rfl) (by kernel_rfl) (by kernel_rfl) (fun _ _ _ h => h) (by kernel_rfl) (Or.inl ⟨by rfl, ?hy14⟩) (HS0.out _ st0.out) (fun _ => HS1.out _ st0.out) ?rest14
  case hy14 => (intro W hSW; (try dsimp only at hSW); go_simp; (try with_reducible rfl))
  (try simp only [Act.put, List.setIfInBounds_toArray, List.set_cons_zero, List.set_cons_succ])
  refine wpF_take0 (i := 3) (v := ?v15) rfl (by kernel_rfl) (by kernel_rfl) (by kernel_rfl) (fun _ _ _ h => h) (by kernel_rfl) (Or.inl ⟨by rfl, ?hy15⟩) (HS0.out _ st0.out) (fun _ => HS1.out _ st0.out) ?rest15
  case hy15 => (intro W hSW; (try dsimp only at hSW); go_simp; (try with_reducible rfl))
  (try simp only [Act.put, List.setIfInBounds_toArray, List.set_cons_zero, List.set_cons_succ])
  refine wpF_take0 (i := 4) (v := ?v16) rfl (by kernel_rfl) (by kernel_rfl) (by kernel_rfl) (fun _ _ _ h => h) (by kernel_rfl) (Or.inl ⟨by rfl, ?hy16⟩) (HS0.out _ st0.out) (fun _ => HS1.out _ st0.out) ?rest16
  case hy16 => (intro W hSW; (try dsimp only at hSW); go_simp; (try with_reducible rfl))
  (try simp only [Act.put, List.setIfInBounds_toArray, List.set_cons_zero, List.set_cons_succ])
  refine wpF_take1 (i := 5) (v := ?v17) rfl (by kernel_rfl) (by kernel_rfl) (by kernel_rfl) (fun _ _ _ h => h) (by kernel_rfl) (by kernel_rfl) (by kernel_rfl) (Or.inl ⟨by rfl, ?hy17⟩) (HS0.out _ st0.out) (fun _ => HS1.out _ st0.out) ?rest17
  case hy17 => (intro W hSW; (try dsimp only at hSW); go_simp; (try with_reducible rfl))
  (try simp only [Act.put, List.setIfInBounds_toArray, List.set_cons_zero, List.set_cons_succ])
  refine wpF_take0 (i := 7) (v := ?v18) rfl (by kernel_rfl) (by kernel_rfl) (by kernel_rfl) (fun _ _ _ h => h) (by kernel_rfl) (Or.inl ⟨by rfl, ?hy18⟩) (HS0.out _ st0.out) (fun _ => HS1.out _ st0.out) ?rest18
  case hy18 => (intro W hSW; (try dsimp only at hSW); go_simp; (try with_reducible rfl))
  (try simp only [Act.put, List.setIfInBounds_toArray, List.set_cons_zero, List.set_cons_succ])
  refine wpF_take0 (i := 8) (v := ?v19) rfl (by kernel_rfl) (by kernel_rfl) (by kernel_rfl) (fun _ _ _ h => h) (by kernel_rfl) (Or.inl ⟨by rfl, ?hy19⟩) (HS0.out _ st0.out) (fun _ => HS1.out _ st0.out) ?rest19
  case hy19 => (intro W hSW; (try dsimp only at hSW); go_simp; (try with_reducible rfl))
  (try simp only [Act.put, List.setIfInBounds_toArray, List.set_cons_zero, List.set_cons_succ])
  refine wpF_take0 (i := 9) (v := ?v20) rfl (by kernel_rfl) (by kernel_rfl) (by kernel_rfl) (fun _ _ _ h => h) (by kernel_rfl) (Or.inl ⟨by rfl, ?hy20⟩) (HS0.out _ st0.out) (fun _ => HS1.out _ st0.out) ?rest20
  case hy20 => (intro W hSW; (try dsimp only at hSW); go_simp; (try with_reducible rfl))
  (try simp only [Act.put, List.setIfInBounds_toArray, List.set_cons_zero, List.set_cons_succ])
  refine wpF_take0 (i := 10) (v := ?v21) rfl (by kernel_rfl) (by kernel_rfl) (by kernel_rfl) (fun _ _ _ h => h) (by kernel_rfl) (Or.inl ⟨by rfl, ?hy21⟩) (HS0.out _ st0.out) (fun _ => HS1.out _ st0.out) ?rest21
  case hy21 => (intro W hSW; (try dsimp only at hSW); go_simp; (try with_reducible rfl))
  (try simp only [Act.put, List.setIfInBounds_toArray, List.set_cons_zero, List.set_cons_succ])
  refine wpF_step2 (i := 1) (j := 11) (by kernel_rfl) rfl rfl (fun K hK => ?_) (fun K hK => ?_)
  · go_simp
    obtain ⟨w1, hw1⟩ : ∃ W, W = w0.alloc (.cells #[] 3) := ⟨_, rfl⟩
    have x1 := Lib.hid (show Ext w0 w1 by rw [hw1]; exact (Ext.refl _).alloc _)
    have tE0 := Lib.hid (show w1.heap[w0.heap.size]? = some (.cells #[] 3) by rw [hw1]; exact heap_new w0 _ rfl _)
    have z1 := Lib.hid (show w1.heap.size = w0.heap.size + 1 by rw [hw1]; simp)
    have st1 := Lib.hid (HEXT.out _ _ st0.out x1.out)
    have e1 := Lib.hid (e0.out.trans x1.out)
    (try unfold msgC at hw1)
    rw [← hw1]
    clear hw1
    refine hK.out _ _ (HS0.out _ st1.out) (fun _ => HS1.out _ st1.out) ?_
    clear hK K
    (try simp only [Act.put, List.setIfInBounds_toArray, List.set_cons_zero, List.set_cons_succ])
    obtain ⟨b33, hb33⟩ : ∃ b, b = w0.heap.size := ⟨_, rfl⟩
    rw [← hb33]
    have HB33 := Lib.hid hb33
    clear hb33
    have oE1 := Lib.hid (show Ow kInt 3 w1 w.heap.size (fun b => w.heap.size ≤ b ∨ B b) (.slice (some ⟨b33, 0, none⟩) 0 0) [] from Ow.mt (by rw [HB33.out]; exact tE0.out) (by rw [HB33.out]; exact e0.out.le) (.inl (by rw [HB33.out]; exact e0.out.le)))
    refine wpF_step2 (i := 6) (j := 11) (by kernel_rfl) rfl rfl (fun K hK => ?_) (fun K hK => ?_)
    · refine step_append_Rs kInt 50 rfl rfl (.tmp 45) (.tmp 49) 23 3 rfl tInts w.heap.size _ _ [] (s.ids) (fun b => w.heap.size ≤ b ∨ B b) (fun b => B b ∧ b < w.heap.size) rfl rfl oE1.out (HB.out.ext e1.out) (fun y cs hy => kInt.mono (fun b hb => ⟨.inr hb.1, fun e => by have e' : some b = some b33 := e; injection e' with e'; have h1 := HB33.out; have h2 := hb.2; have h3 := e0.out.le; omega⟩) hy) (fun b hb => .inl (Nat.le_trans e1.out.le hb)) HSZ.out.1 e1.out.le ?_
      intro vA w2 ho2 hg2 hq2
      rw [List.nil_append] at ho2
      have oA2 := Lib.hid ho2
      have qA := Lib.hid (show vA.ownBlock = some b33 ∨ vA.ownBlock = some w1.heap.size from hq2)
      have qL := Lib.hid (show ∀ k, vA.ownBlock = some k → k < w2.heap.size from oA2.out.lt)
      have hr33 : ∀ k, (.slice (some ⟨b33, 0, none⟩) 0 0 : Value).ownBlock = some k → w.heap.size ≤ k := fun k hk => by have e' : some b33 = some k := hk; injection e' with e'; have h1 := HB33.out; have h3 := e0.out.le; omega
      have st2 := Lib.hid (HGR.out _ _ _ st1.out hg2 hr33)
      have e2 := Lib.hid (e1.out.grown hg2 hr33)
      have zA := Lib.hid (show w1.heap.size ≤ w2.heap.size from hg2.size)
      obtain ⟨AA, xA, mA, eA⟩ : ∃ A x m, vA = .slice A x m := by obtain ⟨A, c, e, _⟩ := id oA2.out.rs; exact ⟨_, _, _, e⟩
      subst eA
      clear ho2 hg2 hq2 hr33
      refine hK.out _ _ (HS0.out _ st2.out) (gone (by kernel_rfl)) ?_
      clear hK K
      (try simp only [Act.put, List.setIfInBounds_toArray, List.set_cons_zero, List.set_cons_succ])
      refine wpF_step (i := 11) (by kernel_rfl) rfl (fun K hK => ?_)
      go_simp
      obtain ⟨w3, hw3⟩ : ∃ W, W = w2.alloc (.cells #[.int .i64 (s.last + 1)] 3) := ⟨_, rfl⟩
      have x3 := Lib.hid (show Ext w2 w3 by rw [hw3]; exact (Ext.refl _).alloc _)
      have tL2 := Lib.hid (show w3.heap[w2.heap.size]? = some (.cells #[.int .i64 (s.last + 1)] 3) by rw [hw3]; exact heap_new w2 _ rfl _)
      have z3 := Lib.hid (show w3.heap.size = w2.heap.size + 1 by rw [hw3]; simp)
      have st3 := Lib.hid (HEXT.out _ _ st2.out x3.out)
      have e3 := Lib.hid (e2.out.trans x3.out)
      (try unfold msgC at hw3)
      rw [← hw3]
      clear hw3
      refine hK.out _ _ (HS0.out _ st3.out) (gone (by kernel_rfl)) ?_
      clear hK K
      (try simp only [Act.put, List.setIfInBounds_toArray, List.set_cons_zero, List.set_cons_succ])
      obtain ⟨h40, hh40⟩ : ∃ b, b = w2.heap.size := ⟨_, rfl⟩
      rw [← hh40]
      have HH40 := Lib.hid hh40
      clear hh40
      have rL3 := Lib.hid (show Rs kInt w3 (fun b => b = h40 ∨ (T b ∧ b < w.heap.size)) (.slice (some ⟨h40, 0, none⟩) 1 1) [s.last + 1] from Rs.one_intb (by rw [HH40.out]; exact tL2.out) (.inl rfl) hI)
      have oA3 := Lib.hid (oA2.out.ext x3.out)
      have hdist := Lib.hid (show ∀ b, (b = h40 ∨ (T b ∧ b < w.heap.size)) → (w.heap.size ≤ b ∨ B b ∨ T b) ∧ some b ≠ (.slice AA xA mA : Value).ownBlock from fun b hb => by
        have qq := qA.out
        have h1 := HB33.out; have h2 := HH40.out; have h3 := zA.out; have h4 := z1.out; have h5 := e0.out.le; have h6 := z0.out
        refine ⟨?_, fun e => ?_⟩
        · rcases hb with hb | hb
          · left; omega
          · exact .inr (.inr hb.1)
        · have h8 := qL.out b e.symm
          rw [← e] at qq
          rcases qq with qq | qq <;> (injection qq with qq; rcases hb with hb | hb <;> omega))
      refine wpF_step (i := 12) (by kernel_rfl) rfl (fun K hK => ?_)
      refine step_append_Rs kInt 56 rfl rfl (.tmp 50) (.tmp 55) 23 3 rfl tInts w.heap.size _ _ (s.ids) [s.last + 1] (fun b => w.heap.size ≤ b ∨ B b ∨ T b) _ rfl rfl (oA3.out.mono (fun b hb => hb.elim .inl (fun h => .inr (.inl h)))) rL3.out (fun y cs hy => kInt.mono hdist.out hy) (fun b hb => .inl (Nat.le_trans e3.out.le hb)) HSZ.out.2 e3.out.le ?_
      intro vO w4 ho4 hg4 _
      have hrA : ∀ k, (.slice AA xA mA : Value).ownBlock = some k → w.heap.size ≤ k := fun k hk => oA3.out.from_ k hk
      have st4 := Lib.hid (HGR.out _ _ _ st3.out hg4 hrA)
      have e4 := Lib.hid (e3.out.grown hg4 hrA)
      have rO := Lib.hid ho4.rs
      obtain ⟨AO, nO, cO, eO⟩ : ∃ A n c, vO = .slice A n c := by obtain ⟨A, c, e, _⟩ := id ho4.rs; exact ⟨_, _, _, e⟩
      subst eO
      clear ho4 hg4 hrA
      refine hK.out _ _ (HS0.out _ st4.out) (gone (by kernel_rfl)) ?_
      clear hK K
      (try simp only [Act.put, List.setIfInBounds_toArray, List.set_cons_zero, List.set_cons_succ])
      refine wpF_take0 (i := 13) (v := ?v22) rfl (by kernel_rfl) (by kernel_rfl) (by kernel_rfl) (fun _ _ _ h => h) (by kernel_rfl) (Or.inl ⟨by rfl, ?hy22⟩) (HS0.out _ st4.out) (gone (by kernel_rfl)) ?rest22
      case hy22 => (intro W hSW; (try dsimp only at hSW); go_simp; (try with_reducible rfl))
      (try simp only [Act.put, List.setIfInBounds_toArray, List.set_cons_zero, List.set_cons_succ])
      refine wpF_take0 (i := 14) (v := ?v23) rfl (by kernel_rfl) (by kernel_rfl) (by kernel_rfl) (fun _ _ _ h => h) (by kernel_rfl) (Or.inl ⟨by rfl, ?hy23⟩) (HS0.out _ st4.out) (gone (by kernel_rfl)) ?rest23
      case hy23 => (intro W hSW; (try dsimp only at hSW); go_simp; (try with_reducible rfl))
      (try simp only [Act.put, List.setIfInBounds_toArray, List.set_cons_zero, List.set_cons_succ])
      have hcs := cell_blk (HBK.out _ st4.out) 1
      have hfs := frozen_blk (HBK.out _ st4.out) 1
      simp only [List.getElem?_toArray, List.getElem?_cons_zero, List.getElem?_cons_succ] at hcs
      have hbn := Lib.hid (heap_setCell_same w4 g 1 _ _ (.slice AO nO cO) (HBK.out _ st4.out))
      refine wpF_step (i := 15) (by kernel_rfl) rfl (fun K hK => ?_)
      go_simp
      refine hK.out _ _ (HST0.out _ _ st4.out) (gone (by kernel_rfl)) ?_
      clear hK K hcs hfs
      (try simp only [Act.put, List.setIfInBounds_toArray, List.set_cons_zero, List.set_cons_succ])
      refine wpF_done (by kernel_rfl) ?_ _
      refine NoPanic.normal ?_
      have hnO := rO.out.shape.1
      subst hnO
      exact hK2.out _ _ _ _ _ _ _ _ _ _ _ _ _ _ _ _  (Lib.hid ⟨_, _, hbn.out, rO.out.seti (g := g) (i := 1) (fun h => by have h1 := HGL.out; rcases h with h | h | h; omega; exact hB h; exact hT h) _, (e4.out.upd (fun b => b = g)).set (S := fun b => b = g) (.inl rfl) _⟩)
    · go_simp
      obtain ⟨w5, hw5⟩ : ∃ W, W = w1.alloc (.cells #[.int .i64 (s.last + 1)] 3) := ⟨_, rfl⟩
      have x5 := Lib.hid (show Ext w1 w5 by rw [hw5]; exact (Ext.refl _).alloc _)
      have tL4 := Lib.hid (show w5.heap[w1.heap.size]? = some (.cells #[.int .i64 (s.last + 1)] 3) by rw [hw5]; exact heap_new w1 _ rfl _)
      have z5 := Lib.hid (show w5.heap.size = w1.heap.size + 1 by rw [hw5]; simp)
      have st5 := Lib.hid (HEXT.out _ _ st1.out x5.out)
      have e5 := Lib.hid (e1.out.trans x5.out)
      (try unfold msgC at hw5)
      rw [← hw5]
      clear hw5
      refine hK.out _ _ (HS0.out _ st5.out) (fun _ => HS1.out _ st5.out) ?_
      clear hK K
      (try simp only [Act.put, List.setIfInBounds_toArray, List.set_cons_zero, List.set_cons_succ])
      obtain ⟨h40, hh40⟩ : ∃ b, b = w1.heap.size := ⟨_, rfl⟩
      rw [← hh40]
      have HH40 := Lib.hid hh40
      clear hh40
      have rL5 := Lib.hid (show Rs kInt w5 (fun b => b = h40 ∨ (T b ∧ b < w.heap.size)) (.slice (some ⟨h40, 0, none⟩) 1 1) [s.last + 1] from Rs.one_intb (by rw [HH40.out]; exact tL4.out) (.inl rfl) hI)
      have oE5 := Lib.hid (oE1.out.ext x5.out)
      refine wpF_step (i := 6) (by kernel_rfl) rfl (fun K hK => ?_)
      refine step_append_Rs kInt 50 rfl rfl (.tmp 45) (.tmp 49) 23 3 rfl tInts w.heap.size _ _ [] (s.ids) (fun b => w.heap.size ≤ b ∨ B b) (fun b => B b ∧ b < w.heap.size) rfl rfl oE5.out (HB.out.ext e5.out) (fun y cs hy => kInt.mono (fun b hb => ⟨.inr hb.1, fun e => by have e' : some b = some b33 := e; injection e' with e'; have h1 := HB33.out; have h2 := hb.2; have h3 := e0.out.le; omega⟩) hy) (fun b hb => .inl (Nat.le_trans e5.out.le hb)) HSZ.out.1 e5.out.le ?_
      intro vA w6 ho6 hg6 hq6
      rw [List.nil_append] at ho6
      have oA6 := Lib.hid ho6
      have qA := Lib.hid (show vA.ownBlock = some b33 ∨ vA.ownBlock = some w5.heap.size from hq6)
      have qL := Lib.hid (show ∀ k, vA.ownBlock = some k → k < w6.heap.size from oA6.out.lt)
      have hr33 : ∀ k, (.slice (some ⟨b33, 0, none⟩) 0 0 : Value).ownBlock = some k → w.heap.size ≤ k := fun k hk => by have e' : some b33 = some k := hk; injection e' with e'; have h1 := HB33.out; have h3 := e0.out.le; omega
      have st6 := Lib.hid (HGR.out _ _ _ st5.out hg6 hr33)
      have e6 := Lib.hid (e5.out.grown hg6 hr33)
      have zA := Lib.hid (show w5.heap.size ≤ w6.heap.size from hg6.size)
      have rL6 := Lib.hid (rL5.out.grown hg6 (fun k hk hn => by have e' : some b33 = some k := hk; injection e' with e'; have h1 := HB33.out; have h2 := HH40.out; have h3 := e0.out.le; have h4 := e1.out.le; have h9 := z1.out; rcases hn with hn | hn <;> omega))
      obtain ⟨AA, xA, mA, eA⟩ : ∃ A x m, vA = .slice A x m := by obtain ⟨A, c, e, _⟩ := id oA6.out.rs; exact ⟨_, _, _, e⟩
      subst eA
      clear ho6 hg6 hq6 hr33
      refine hK.out _ _ (HS0.out _ st6.out) (gone (by kernel_rfl)) ?_
      clear hK K
      (try simp only [Act.put, List.setIfInBounds_toArray, List.set_cons_zero, List.set_cons_succ])
      have hdist := Lib.hid (show ∀ b, (b = h40 ∨ (T b ∧ b < w.heap.size)) → (w.heap.size ≤ b ∨ B b ∨ T b) ∧ some b ≠ (.slice AA xA mA : Value).ownBlock from fun b hb => by
        have qq := qA.out
        have h1 := HB33.out; have h2 := HH40.out; have h3 := zA.out; have h4 := z1.out; have h7 := z5.out; have h5 := e0.out.le; have h6 := z0.out
        refine ⟨?_, fun e => ?_⟩
        · rcases hb with hb | hb
          · left; omega
          · exact .inr (.inr hb.1)
        · have h8 := qL.out b e.symm
          rw [← e] at qq
          rcases qq with qq | qq <;> (injection qq with qq; rcases hb with hb | hb <;> omega))
      refine wpF_step (i := 12) (by kernel_rfl) rfl (fun K hK => ?_)
      refine step_append_Rs kInt 56 rfl rfl (.tmp 50) (.tmp 55) 23 3 rfl tInts w.heap.size _ _ (s.ids) [s.last + 1] (fun b => w.heap.size ≤ b ∨ B b ∨ T b) _ rfl rfl (oA6.out.mono (fun b hb => hb.elim .inl (fun h => .inr (.inl h)))) rL6.out (fun y cs hy => kInt.mono hdist.out hy) (fun b hb => .inl (Nat.le_trans e6.out.le hb)) HSZ.out.2 e6.out.le ?_
      intro vO w7 ho7 hg7 _
      have hrA : ∀ k, (.slice AA xA mA : Value).ownBlock = some k → w.heap.size ≤ k := fun k hk => oA6.out.from_ k hk
      have st7 := Lib.hid (HGR.out _ _ _ st6.out hg7 hrA)
      have e7 := Lib.hid (e6.out.grown hg7 hrA)
      have rO := Lib.hid ho7.rs
      obtain ⟨AO, nO, cO, eO⟩ : ∃ A n c, vO = .slice A n c := by obtain ⟨A, c, e, _⟩ := id ho7.rs; exact ⟨_, _, _, e⟩
      subst eO
      clear ho7 hg7 hrA
      refine hK.out _ _ (HS0.out _ st7.out) (gone (by kernel_rfl)) ?_
      clear hK K
      (try simp only [Act.put, List.setIfInBounds_toArray, List.set_cons_zero, List.set_cons_succ])
      refine wpF_take0 (i := 13) (v := ?v24) rfl (by kernel_rfl) (by kernel_rfl) (by kernel_rfl) (fun _ _ _ h => h) (by kernel_rfl) (Or.inl ⟨by rfl, ?hy24⟩) (HS0.out _ st7.out) (gone (by kernel_rfl)) ?rest24
      case hy24 => (intro W hSW; (try dsimp only at hSW); go_simp; (try with_reducible rfl))
      (try simp only [Act.put, List.setIfInBounds_toArray, List.set_cons_zero, List.set_cons_succ])
      refine wpF_take0 (i := 14) (v := ?v25) rfl (by kernel_rfl) (by kernel_rfl) (by kernel_rfl) (fun _ _ _ h => h) (by kernel_rfl) (Or.inl ⟨by rfl, ?hy25⟩) (HS0.out _ st7.out) (gone (by kernel_rfl)) ?rest25
      case hy25 => (intro W hSW; (try dsimp only at hSW); go_simp; (try with_reducible rfl))
      (try simp only [Act.put, List.setIfInBounds_toArray, List.set_cons_zero, List.set_cons_succ])
      have hcs := cell_blk (HBK.out _ st7.out) 1
      have hfs := frozen_blk (HBK.out _ st7.out) 1
      simp only [List.getElem?_toArray, List.getElem?_cons_zero, List.getElem?_cons_succ] at hcs
      have hbn := Lib.hid (heap_setCell_same w7 g 1 _ _ (.slice AO nO cO) (HBK.out _ st7.out))
      refine wpF_step (i := 15) (by kernel_rfl) rfl (fun K hK => ?_)
      go_simp
      refine hK.out _ _ (HST0.out _ _ st7.out) (gone (by kernel_rfl)) ?_
      clear hK K hcs hfs
      (try simp only [Act.put, List.setIfInBounds_toArray, List.set_cons_zero, List.set_cons_succ])
      refine wpF_done (by kernel_rfl) ?_ _
      refine NoPanic.normal ?_
      have hnO := rO.out.shape.1
      subst hnO
      exact hK2.out _ _ _ _ _ _ _ _ _ _ _ _ _ _ _ _  (Lib.hid ⟨_, _, hbn.out, rO.out.seti (g := g) (i := 1) (fun h => by have h1 := HGL.out; rcases h with h | h | h; omega; exact hB h; exact hT h) _, (e7.out.upd (fun b => b = g)).set (S := fun b => b = g) (.inl rfl) _⟩)
  · go_simp
    obtain ⟨w8, hw8⟩ : ∃ W, W = w0.alloc (.cells #[.int .i64 (s.last + 1)] 3) := ⟨_, rfl⟩
    have x8 := Lib.hid (show Ext w0 w8 by rw [hw8]; exact (Ext.refl _).alloc _)
    have tL7 := Lib.hid (show w8.heap[w0.heap.size]? = some (.cells #[.int .i64 (s.last + 1)] 3) by rw [hw8]; exact heap_new w0 _ rfl _)
    have z8 := Lib.hid (show w8.heap.size = w0.heap.size + 1 by rw [hw8]; simp)
    have st8 := Lib.hid (HEXT.out _ _ st0.out x8.out)
    have e8 := Lib.hid (e0.out.trans x8.out)
    (try unfold msgC at hw8)
    rw [← hw8]
    clear hw8
    refine hK.out _ _ (HS0.out _ st8.out) (fun _ => HS1.out _ st8.out) ?_
    clear hK K
    (try simp only [Act.put, List.setIfInBounds_toArray, List.set_cons_zero, List.set_cons_succ])
    obtain ⟨h40, hh40⟩ : ∃ b, b = w0.heap.size := ⟨_, rfl⟩
    rw [← hh40]
    have HH40 := Lib.hid hh40
    clear hh40
    have rL8 := Lib.hid (show Rs kInt w8 (fun b => b = h40 ∨ (T b ∧ b < w.heap.size)) (.slice (some ⟨h40, 0, none⟩) 1 1) [s.last + 1] from Rs.one_intb (by rw [HH40.out]; exact tL7.out) (.inl rfl) hI)
    refine wpF_step (i := 1) (by kernel_rfl) rfl (fun K hK => ?_)
    go_simp
    obtain ⟨w9, hw9⟩ : ∃ W, W = w8.alloc (.cells #[] 3) := ⟨_, rfl⟩
    have x9 := Lib.hid (show Ext w8 w9 by rw [hw9]; exact (Ext.refl _).alloc _)
    have tE8 := Lib.hid (show w9.heap[w8.heap.size]? = some (.cells #[] 3) by rw [hw9]; exact heap_new w8 _ rfl _)
    have z9 := Lib.hid (show w9.heap.size = w8.heap.size + 1 by rw [hw9]; simp)
    have st9 := Lib.hid (HEXT.out _ _ st8.out x9.out)
    have e9 := Lib.hid (e8.out.trans x9.out)
    (try unfold msgC at hw9)
    rw [← hw9]
    clear hw9
    refine hK.out _ _ (HS0.out _ st9.out) (fun _ => HS1.out _ st9.out) ?_
    clear hK K
    (try simp only [Act.put, List.setIfInBounds_toArray, List.set_cons_zero, List.set_cons_succ])
    obtain ⟨b33, hb33⟩ : ∃ b, b = w8.heap.size := ⟨_, rfl⟩
    rw [← hb33]
    have HB33 := Lib.hid hb33
    clear hb33
    have oE9 := Lib.hid (show Ow kInt 3 w9 w.heap.size (fun b => w.heap.size ≤ b ∨ B b) (.slice (some ⟨b33, 0, none⟩) 0 0) [] from Ow.mt (by rw [HB33.out]; exact tE8.out) (by rw [HB33.out]; exact e8.out.le) (.inl (by rw [HB33.out]; exact e8.out.le)))
    have rL9 := Lib.hid (rL8.out.ext x9.out)
    refine wpF_step (i := 6) (by kernel_rfl) rfl (fun K hK => ?_)
    refine step_append_Rs kInt 50 rfl rfl (.tmp 45) (.tmp 49) 23 3 rfl tInts w.heap.size _ _ [] (s.ids) (fun b => w.heap.size ≤ b ∨ B b) (fun b => B b ∧ b < w.heap.size) rfl rfl oE9.out (HB.out.ext e9.out) (fun y cs hy => kInt.mono (fun b hb => ⟨.inr hb.1, fun e => by have e' : some b = some b33 := e; injection e' with e'; have h1 := HB33.out; have h2 := hb.2; have h3 := e8.out.le; omega⟩) hy) (fun b hb => .inl (Nat.le_trans e9.out.le hb)) HSZ.out.1 e9.out.le ?_
    intro vA w10 ho10 hg10 hq10
    rw [List.nil_append] at ho10
    have oA10 := Lib.hid ho10
    have qA := Lib.hid (show vA.ownBlock = some b33 ∨ vA.ownBlock = some w9.heap.size from hq10)
    have qL := Lib.hid (show ∀ k, vA.ownBlock = some k → k < w10.heap.size from oA10.out.lt)
    have hr33 : ∀ k, (.slice (some ⟨b33, 0, none⟩) 0 0 : Value).ownBlock = some k → w.heap.size ≤ k := fun k hk => by have e' : some b33 = some k := hk; injection e' with e'; have h1 := HB33.out; have h3 := e8.out.le; omega
    have st10 := Lib.hid (HGR.out _ _ _ st9.out hg10 hr33)
    have e10 := Lib.hid (e9.out.grown hg10 hr33)
    have zA := Lib.hid (show w9.heap.size ≤ w10.heap.size from hg10.size)
    have rL10 := Lib.hid (rL9.out.grown hg10 (fun k hk hn => by have e' : some b33 = some k := hk; injection e' with e'; have h1 := HB33.out; have h2 := HH40.out; have h3 := e8.out.le; have h4 := e0.out.le; have h9 := z8.out; rcases hn with hn | hn <;> omega))
    obtain ⟨AA, xA, mA, eA⟩ : ∃ A x m, vA = .slice A x m := by obtain ⟨A, c, e, _⟩ := id oA10.out.rs; exact ⟨_, _, _, e⟩
    subst eA
    clear ho10 hg10 hq10 hr33
    refine hK.out _ _ (HS0.out _ st10.out) (gone (by kernel_rfl)) ?_
    clear hK K
    (try simp only [Act.put, List.setIfInBounds_toArray, List.set_cons_zero, List.set_cons_succ])
    have hdist := Lib.hid (show ∀ b, (b = h40 ∨ (T b ∧ b < w.heap.size)) → (w.heap.size ≤ b ∨ B b ∨ T b) ∧ some b ≠ (.slice AA xA mA : Value).ownBlock from fun b hb => by
      have qq := qA.out
      have h1 := HB33.out; have h2 := HH40.out; have h3 := zA.out; have h4 := z8.out; have h7 := z9.out; have h5 := e0.out.le; have h6 := z0.out
      refine ⟨?_, fun e => ?_⟩
      · rcases hb with hb | hb
        · left; omega
        · exact .inr (.inr hb.1)
      · have h8 := qL.out b e.symm
        rw [← e] at qq
        rcases qq with qq | qq <;> (injection qq with qq; rcases hb with hb | hb <;> omega))
    refine wpF_step (i := 12) (by kernel_rfl) rfl (fun K hK => ?_)
    refine step_append_Rs kInt 56 rfl rfl (.tmp 50) (.tmp 55) 23 3 rfl tInts w.heap.size _ _ (s.ids) [s.last + 1] (fun b => w.heap.size ≤ b ∨ B b ∨ T b) _ rfl rfl (oA10.out.mono (fun b hb => hb.elim .inl (fun h => .inr (.inl h)))) rL10.out (fun y cs hy => kInt.mono hdist.out hy) (fun b hb => .inl (Nat.le_trans e10.out.le hb)) HSZ.out.2 e10.out.le ?_
    intro vO w11 ho11 hg11 _
    have hrA : ∀ k, (.slice AA xA mA : Value).ownBlock = some k → w.heap.size ≤ k := fun k hk => oA10.out.from_ k hk
    have st11 := Lib.hid (HGR.out _ _ _ st10.out hg11 hrA)
    have e11 := Lib.hid (e10.out.grown hg11 hrA)
    have rO := Lib.hid ho11.rs
    obtain ⟨AO, nO, cO, eO⟩ : ∃ A n c, vO = .slice A n c := by obtain ⟨A, c, e, _⟩ := id ho11.rs; exact ⟨_, _, _, e⟩
    subst eO
    clear ho11 hg11 hrA
    refine hK.out _ _ (HS0.out _ st11.out) (gone (by kernel_rfl)) ?_
    clear hK K
    (try simp only [Act.put, List.setIfInBounds_toArray, List.set_cons_zero, List.set_cons_succ])
    refine wpF_take0 (i := 13) (v := ?v26) rfl (by kernel_rfl) (by kernel_rfl) (by kernel_rfl) (fun _ _ _ h => h) (by kernel_rfl) (Or.inl ⟨by rfl, ?hy26⟩) (HS0.out _ st11.out) (gone (by kernel_rfl)) ?rest26
    case hy26 => (intro W hSW; (try dsimp only at hSW); go_simp; (try with_reducible rfl))
    (try simp only [Act.put, List.setIfInBounds_toArray, List.set_cons_zero, List.set_cons_succ])
    refine wpF_take0 (i := 14) (v := ?v27) rfl (by kernel_rfl) (by kernel_rfl) (by kernel_rfl) (fun _ _ _ h => h) (by kernel_rfl) (Or.inl ⟨by rfl, ?hy27⟩) (HS0.out _ st11.out) (gone (by kernel_rfl)) ?rest27
    case hy27 => (intro W hSW; (try dsimp only at hSW); go_simp; (try with_reducible rfl))
    (try simp only [Act.put, List.setIfInBounds_toArray, List.set_cons_zero, List.set_cons_succ])
    have hcs := cell_blk (HBK.out _ st11.out) 1
    have hfs := frozen_blk (HBK.out _ st11.out) 1
    simp only [List.getElem?_toArray, List.getElem?_cons_zero, List.getElem?_cons_succ] at hcs
    have hbn := Lib.hid (heap_setCell_same w11 g 1 _ _ (.slice AO nO cO) (HBK.out _ st11.out))
    refine wpF_step (i := 15) (by kernel_rfl) rfl (fun K hK => ?_)
    go_simp
    refine hK.out _ _ (HST0.out _ _ st11.out) (gone (by kernel_rfl)) ?_
    clear hK K hcs hfs
    (try simp only [Act.put, List.setIfInBounds_toArray, List.set_cons_zero, List.set_cons_succ])
    refine wpF_done (by kernel_rfl) ?_ _
    refine NoPanic.normal ?_
    have hnO := rO.out.shape.1
    subst hnO
    exact hK2.out _ _ _ _ _ _ _ _ _ _ _ _ _ _ _ _  (Lib.hid ⟨_, _, hbn.out, rO.out.seti (g := g) (i := 1) (fun h => by have h1 := HGL.out; rcases h with h | h | h; omega; exact hB h; exact hT h) _, (e11.out.upd (fun b => b = g)).set (S := fun b => b = g) (.inl rfl) _⟩)

set_option maxRecDepth 1000000 in
set_option maxHeartbeats 4000000 in
theorem rl4 {K : Act → World → Prop} {Q : Exit → Act → World → Prop} {w : World} {c1 c2 c3 c4 c6 c7 c8 c9 c10 c11 c12 c13 c14 c15 c16 c17 c18 c19 c20 c21 c22 c23 c24 c25 c26 c27 c28 c29 c30 c31 c32 c33 c34 c35 c36 c37 c38 c39 c40 c41 c42 c43 c44 c45 c46 c47 c48 : Value} (g i : Nat) (B : Nat → Prop) (s : BagS) (A : Option Addr) (c : Nat) (v0 v1 v2 : Value) (hb : Hid (w.heap[g]? = some (.cells #[.slice A s.ms.length c, v1, v2] 50 (0, 0)))) (hr : Hid (Rs kMsg w B (.slice A s.ms.length c) s.ms)) (hB : ¬ B g) (hi : i < s.ms.length) (h256 : s.ms.length ≤ 256)
    (hK : ∀ (u11 u12 u13 u14 u15 u16 u17 u18 u19 u20 u21 u22 u23 u24 u25 u26 u27 u28 u29 : Value) (wx : World), Hid (∃ A' c', wx.heap[g]? = some (.cells #[.slice A' (s.ms.eraseIdx i).length c', v1, v2] 50 (0, 0)) ∧ Rs kMsg wx (fun b => w.heap.size ≤ b ∨ B b) (.slice A' (s.ms.eraseIdx i).length c') (s.ms.eraseIdx i) ∧ Upd (fun b => b = g) w wx) → K ⟨#[.pointer (some ⟨g, 0, none⟩), c1, c2, c3, c4, .int .i64 (i : Int), c6, c7, c8, c9, c10, u11, u12, u13, u14, u15, u16, u17, u18, u19, u20, u21, u22, u23, u24, u25, u26, u27, u28, u29, c30, c31, c32, c33, c34, c35, c36, c37, c38, c39, c40, c41, c42, c43, c44, c45, c46, c47, c48], []⟩ wx) :
    Code.wp Try.prog ((Try.f27.body.bind (regionAt 4)).getD .skip) (Exit.then K Q) ⟨#[.pointer (some ⟨g, 0, none⟩), c1, c2, c3, c4, .int .i64 (i : Int), c6, c7, c8, c9, c10, c11, c12, c13, c14, c15, c16, c17, c18, c19, c20, c21, c22, c23, c24, c25, c26, c27, c28, c29, c30, c31, c32, c33, c34, c35, c36, c37, c38, c39, c40, c41, c42, c43, c44, c45, c46, c47, c48], []⟩ w := by
  conv => arg 2; whnf
  have hK2 := Lib.hid @hK
  obtain ⟨ST, hST⟩ : ∃ ST : World → Prop, ST = fun W => W.heap[g]? = some (.cells #[.slice A s.ms.length c, v1, v2] 50 (0, 0)) := ⟨_, rfl⟩
  have HS0 := Lib.hid (show ∀ W : World, ST W → True by rw [hST]; exact fun W h => trivial)
  have HS1 := Lib.hid (show ∀ W : World, ST W → W.cell? ⟨g, 0, none⟩ = some (.slice A s.ms.length c) by rw [hST]; exact fun W h => cell_blk h 0)
  have HBK := Lib.hid (show ∀ W : World, ST W → W.heap[g]? = some (.cells #[.slice A s.ms.length c, v1, v2] 50 (0, 0)) by rw [hST]; exact fun W h => h)
  have HEXT := Lib.hid (show ∀ W W' : World, ST W → Ext W W' → ST W' by rw [hST]; exact fun W W' h hx => blk_ext h hx)
  have HGL := Lib.hid (show g < w.heap.size from blk_lt hb.out)
  have HB := Lib.hid (show Rs kMsg w (fun b => B b ∧ b < w.heap.size) (.slice A s.ms.length c) s.ms from hr.out.bound)
  have HP1 := Lib.hid (show Rs kMsg w (fun b => B b ∧ b < w.heap.size) (partZ A c 0 i 13) (s.ms.take i) from HB.out.toz (by omega))
  have HP2 := Lib.hid (show Rs kMsg w (fun b => B b ∧ b < w.heap.size) (partZ A c (i + 1) s.ms.length 13) (s.ms.drop (i + 1)) from HB.out.fromz (by omega))
  have HCAP := Lib.hid (show s.ms.length ≤ c from hr.out.shape.2.1)
  have hs1 := fun W => sliceZ_to (P := Try.prog) tMsgs A s.ms.length c .i64 (i : Int) i rfl (by have := HCAP.out; omega) W
  have hs2 := fun W => sliceZ_from (P := Try.prog) tMsgs A s.ms.length c .i64 ((i : Int) + 1) (i + 1) (by omega) (by omega) W
  simp only [partZ_eq, Nat.sub_zero] at hs1 hs2 HP1 HP2
  have hwi : IntKind.i64.wrap ((i : Int) + 1) = (i : Int) + 1 := IntWalk.i64_in _ (by omega)
  have HSZ := Lib.hid (show (([] : List MsgS).length + (s.ms.take i).length) * 144 ≤ 140737488355328 ∧ ((s.ms.take i).length + (s.ms.drop (i + 1)).length) * 144 ≤ 140737488355328 by simp; omega)
  have HGR := Lib.hid (show ∀ (W W' : World) (r : Option Nat), ST W → W.grownBy W' r → (∀ k, r = some k → w.heap.size ≤ k) → ST W' by rw [hST]; exact fun W W' r h hg hr => (hg.block g (blk_lt h) (fun e => by have h1 := hr g e.symm; have h2 := HGL.out; omega)).trans h)
  have HST0 := Lib.hid (show ∀ (W : World) (v : Value), ST W → True by rw [hST]; exact fun W v h => trivial)
  obtain ⟨w0, hw0⟩ : ∃ W, W = w.drew := ⟨_, rfl⟩
  have e0 := Lib.hid (show Ext w w0 by rw [hw0]; exact (Ext.refl w).drew)
  have st0 := Lib.hid (show ST w0 by rw [hw0, hST]; exact hb.out)
  have z0 := Lib.hid (show w0.heap.size = w.heap.size by rw [hw0]; rfl)
  clear hK hST
  refine wpF_region (fun W => True) (fun W => W.cell? ⟨g, 0, none⟩ = some (.slice A s.ms.length c)) 19 20 (by kernel_rfl) (by kernel_rfl) ?_
  rw [← hw0]
  clear hw0
  refine wpF_take0 (i := 0) (v := ?v28) rfl (by kernel_rfl) (by kernel_rfl) (by kernel_rfl) (fun _ _ _ h => h) (by kernel_rfl) (Or.inl ⟨by rfl, ?hy28⟩) (HS0.out _ st0.out) (fun _ => HS1.out _ st0.out) ?rest28
  case hy28 => (intro W hSW; (try dsimp only at hSW); go_simp; (try with_reducible rfl))
  (try simp only [Act.put, List.setIfInBounds_toArray, List.set_cons_zero, List.set_cons_succ])
  refine wpF_take0 (i := 2) (v := ?v29) rfl (by kernel_rfl) (by kernel_rfl) (by kernel_rfl) (fun _ _ _ h => h) (by kernel_rfl) (Or.inl ⟨by rfl, ?hy29⟩) (HS0.out _ st0.out) (fun _ => HS1.out _ st0.out) ?rest29
  case hy29 => (intro W hSW; (try dsimp only at hSW); go_simp; (try with_reducible rfl))
  (try simp only [Act.put, List.setIfInBounds_toArray, List.set_cons_zero, List.set_cons_succ])
  refine wpF_take0 (i := 3) (v := ?v30) rfl (by kernel_rfl) (by kernel_rfl) (by kernel_rfl) (fun _ _ _ h => h) (by kernel_rfl) (Or.inl ⟨by rfl, ?hy30⟩) (HS0.out _ st0.out) (fun _ => HS1.out _ st0.out) ?rest30
  case hy30 => (intro W hSW; (try dsimp only at hSW); go_simp; (try with_reducible rfl))
  (try simp only [Act.put, List.setIfInBounds_toArray, List.set_cons_zero, List.set_cons_succ])
  refine wpF_take0 (i := 4) (v := ?v31) rfl (by kernel_rfl) (by kernel_rfl) (by kernel_rfl) (fun _ _ _ h => h) (by kernel_rfl) (Or.inl ⟨by rfl, ?hy31⟩) (HS0.out _ st0.out) (fun _ => HS1.out _ st0.out) ?rest31
  case hy31 => (intro W hSW; (try dsimp only at hSW); go_simp; (try with_reducible rfl))
  (try simp only [Act.put, List.setIfInBounds_toArray, List.set_cons_zero, List.set_cons_succ])
  refine wpF_take1 (i := 5) (v := ?v32) rfl (by kernel_rfl) (by kernel_rfl) (by kernel_rfl) (fun _ _ _ h => h) (by kernel_rfl) (by kernel_rfl) (by kernel_rfl) (Or.inl ⟨by rfl, ?hy32⟩) (HS0.out _ st0.out) (fun _ => HS1.out _ st0.out) ?rest32
  case hy32 => (intro W hSW; (try dsimp only at hSW); go_simp; (try with_reducible rfl))
  (try simp only [Act.put, List.setIfInBounds_toArray, List.set_cons_zero, List.set_cons_succ])
  refine wpF_take0 (i := 6) (v := ?v33) rfl (by kernel_rfl) (by kernel_rfl) (by kernel_rfl) (fun _ _ _ h => h) (by kernel_rfl) (Or.inl ⟨by rfl, ?hy33⟩) (HS0.out _ st0.out) (fun _ => HS1.out _ st0.out) ?rest33
  case hy33 => (intro W hSW; (try dsimp only at hSW); go_simp; (try with_reducible rfl))
  (try simp only [Act.put, List.setIfInBounds_toArray, List.set_cons_zero, List.set_cons_succ])
  refine wpF_take0 (i := 7) (v := ?v34) rfl (by kernel_rfl) (by kernel_rfl) (by kernel_rfl) (fun _ _ _ h => h) (by kernel_rfl) (Or.inl ⟨by rfl, ?hy34⟩) (HS0.out _ st0.out) (fun _ => HS1.out _ st0.out) ?rest34
  case hy34 => (intro W hSW; (try dsimp only at hSW); go_simp; (try with_reducible rfl))
  (try simp only [Act.put, List.setIfInBounds_toArray, List.set_cons_zero, List.set_cons_succ])
  refine wpF_take0 (i := 9) (v := ?v35) rfl (by kernel_rfl) (by kernel_rfl) (by kernel_rfl) (fun _ _ _ h => h) (by kernel_rfl) (Or.inl ⟨by rfl, ?hy35⟩) (HS0.out _ st0.out) (fun _ => HS1.out _ st0.out) ?rest35
  case hy35 => (intro W hSW; (try dsimp only at hSW); go_simp; (try with_reducible rfl))
  (try simp only [Act.put, List.setIfInBounds_toArray, List.set_cons_zero, List.set_cons_succ])
  refine wpF_take0 (i := 10) (v := ?v36) rfl (by kernel_rfl) (by kernel_rfl) (by kernel_rfl) (fun _ _ _ h => h) (by kernel_rfl) (Or.inl ⟨by rfl, ?hy36⟩) (HS0.out _ st0.out) (fun _ => HS1.out _ st0.out) ?rest36
  case hy36 => (intro W hSW; (try dsimp only at hSW); go_simp; (try with_reducible rfl))
  (try simp only [Act.put, List.setIfInBounds_toArray, List.set_cons_zero, List.set_cons_succ])
  refine wpF_take0 (i := 11) (v := ?v37) rfl (by kernel_rfl) (by kernel_rfl) (by kernel_rfl) (fun _ _ _ h => h) (by kernel_rfl) (Or.inl ⟨by rfl, ?hy37⟩) (HS0.out _ st0.out) (fun _ => HS1.out _ st0.out) ?rest37
  case hy37 => (intro W hSW; (try dsimp only at hSW); go_simp; (try with_reducible rfl))
  (try simp only [Act.put, List.setIfInBounds_toArray, List.set_cons_zero, List.set_cons_succ])
  refine wpF_take1 (i := 12) (v := ?v38) rfl (by kernel_rfl) (by kernel_rfl) (by kernel_rfl) (fun _ _ _ h => h) (by kernel_rfl) (by kernel_rfl) (by kernel_rfl) (Or.inl ⟨by rfl, ?hy38⟩) (HS0.out _ st0.out) (fun _ => HS1.out _ st0.out) ?rest38
  case hy38 => (intro W hSW; (try dsimp only at hSW); go_simp; (try with_reducible rfl))
  (try simp only [Act.put, List.setIfInBounds_toArray, List.set_cons_zero, List.set_cons_succ])
  refine wpF_take0 (i := 13) (v := ?v39) rfl (by kernel_rfl) (by kernel_rfl) (by kernel_rfl) (fun _ _ _ h => h) (by kernel_rfl) (Or.inl ⟨by rfl, ?hy39⟩) (HS0.out _ st0.out) (fun _ => HS1.out _ st0.out) ?rest39
  case hy39 => (intro W hSW; (try dsimp only at hSW); go_simp; (try with_reducible rfl))
  (try simp only [Act.put, List.setIfInBounds_toArray, List.set_cons_zero, List.set_cons_succ])
  refine wpF_take0 (i := 14) (v := ?v40) rfl (by kernel_rfl) (by kernel_rfl) (by kernel_rfl) (fun _ _ _ h => h) (by kernel_rfl) (Or.inl ⟨by rfl, ?hy40⟩) (HS0.out _ st0.out) (fun _ => HS1.out _ st0.out) ?rest40
  case hy40 => (intro W hSW; (try dsimp only at hSW); go_simp; (try with_reducible rfl))
  (try simp only [Act.put, List.setIfInBounds_toArray, List.set_cons_zero, List.set_cons_succ])
  refine wpF_take0 (i := 15) (v := ?v41) rfl (by kernel_rfl) (by kernel_rfl) (by kernel_rfl) (fun _ _ _ h => h) (by kernel_rfl) (Or.inl ⟨by rfl, ?hy41⟩) (HS0.out _ st0.out) (fun _ => HS1.out _ st0.out) ?rest41
  case hy41 => (intro W hSW; (try dsimp only at hSW); go_simp; (try with_reducible rfl))
  (try simp only [Act.put, List.setIfInBounds_toArray, List.set_cons_zero, List.set_cons_succ])
  refine wpF_step (i := 1) (by kernel_rfl) rfl (fun K hK => ?_)
  go_simp
  obtain ⟨w1, hw1⟩ : ∃ W, W = w0.alloc (.cells #[] 26) := ⟨_, rfl⟩
  have x1 := Lib.hid (show Ext w0 w1 by rw [hw1]; exact (Ext.refl _).alloc _)
  have tE := Lib.hid (show w1.heap[w0.heap.size]? = some (.cells #[] 26) by rw [hw1]; exact heap_new w0 _ rfl _)
  have z1 := Lib.hid (show w1.heap.size = w0.heap.size + 1 by rw [hw1]; simp)
  have st1 := Lib.hid (HEXT.out _ _ st0.out x1.out)
  have e1 := Lib.hid (e0.out.trans x1.out)
  (try unfold msgC at hw1)
  rw [← hw1]
  clear hw1
  refine hK.out _ _ (HS0.out _ st1.out) (fun _ => HS1.out _ st1.out) ?_
  clear hK K
  (try simp only [Act.put, List.setIfInBounds_toArray, List.set_cons_zero, List.set_cons_succ])
  obtain ⟨b33, hb33⟩ : ∃ b, b = w0.heap.size := ⟨_, rfl⟩
  rw [← hb33]
  have HB33 := Lib.hid hb33
  clear hb33
  have oE := Lib.hid (show Ow kMsg 26 w1 w.heap.size (fun b => w.heap.size ≤ b ∨ B b) (.slice (some ⟨b33, 0, none⟩) 0 0) [] from Ow.mt (by rw [HB33.out]; exact tE.out) (by rw [HB33.out]; exact e0.out.le) (.inl (by rw [HB33.out]; exact e0.out.le)))
  refine wpF_step (i := 8) (by kernel_rfl) rfl (fun K hK => ?_)
  refine step_append_Rs kMsg 19 rfl rfl (.tmp 12) (.tmp 18) 28 26 rfl tMsgs w.heap.size _ _ ([]) (s.ms.take i) (fun b => w.heap.size ≤ b ∨ B b) (fun b => B b ∧ b < w.heap.size) rfl rfl oE.out (HP1.out.ext e1.out) (fun y cs hy => kMsg.mono (fun b hb => ⟨.inr hb.1, fun e => by have h1 := oE.out.from_ b e.symm; have h2 := hb.2; omega⟩) hy) (fun b hb => .inl (Nat.le_trans e1.out.le hb)) HSZ.out.1 e1.out.le ?_
  intro vA w2 ho hg hq
  rw [List.nil_append] at ho
  have hrr : ∀ k, (.slice (some ⟨b33, 0, none⟩) 0 0 : Value).ownBlock = some k → w.heap.size ≤ k := fun k hk => oE.out.from_ k hk
  have oA := Lib.hid ho
  have st2 := Lib.hid (HGR.out _ _ _ st1.out hg hrr)
  have e2 := Lib.hid (e1.out.grown hg hrr)
  obtain ⟨AA, nA, cA, eQ⟩ : ∃ A n c, vA = .slice A n c := by obtain ⟨A, c, e, _⟩ := id ho.rs; exact ⟨_, _, _, e⟩
  subst eQ
  clear ho hg hq hrr
  refine hK.out _ _ (HS0.out _ st2.out) (fun _ => HS1.out _ st2.out) ?_
  clear hK K
  (try simp only [Act.put, List.setIfInBounds_toArray, List.set_cons_zero, List.set_cons_succ])
  refine wpF_step (i := 16) (by kernel_rfl) rfl (fun K hK => ?_)
  refine step_append_Rs kMsg 27 rfl rfl (.tmp 19) (.tmp 26) 28 26 rfl tMsgs w.heap.size _ _ (s.ms.take i) (s.ms.drop (i + 1)) (fun b => w.heap.size ≤ b ∨ B b) (fun b => B b ∧ b < w.heap.size) rfl rfl oA.out (HP2.out.ext e2.out) (fun y cs hy => kMsg.mono (fun b hb => ⟨.inr hb.1, fun e => by have h1 := oA.out.from_ b e.symm; have h2 := hb.2; omega⟩) hy) (fun b hb => .inl (Nat.le_trans e2.out.le hb)) HSZ.out.2 e2.out.le ?_
  intro vO w3 ho hg hq
  have hrr : ∀ k, (.slice AA nA cA : Value).ownBlock = some k → w.heap.size ≤ k := fun k hk => oA.out.from_ k hk
  have oO := Lib.hid ho
  have st3 := Lib.hid (HGR.out _ _ _ st2.out hg hrr)
  have e3 := Lib.hid (e2.out.grown hg hrr)
  obtain ⟨AO, nO, cO, eQ⟩ : ∃ A n c, vO = .slice A n c := by obtain ⟨A, c, e, _⟩ := id ho.rs; exact ⟨_, _, _, e⟩
  subst eQ
  clear ho hg hq hrr
  refine hK.out _ _ (HS0.out _ st3.out) (fun _ => HS1.out _ st3.out) ?_
  clear hK K
  (try simp only [Act.put, List.setIfInBounds_toArray, List.set_cons_zero, List.set_cons_succ])
  refine wpF_take0 (i := 17) (v := ?v42) rfl (by kernel_rfl) (by kernel_rfl) (by kernel_rfl) (fun _ _ _ h => h) (by kernel_rfl) (Or.inl ⟨by rfl, ?hy42⟩) (HS0.out _ st3.out) (fun _ => HS1.out _ st3.out) ?rest42
  case hy42 => (intro W hSW; (try dsimp only at hSW); go_simp; (try with_reducible rfl))
  (try simp only [Act.put, List.setIfInBounds_toArray, List.set_cons_zero, List.set_cons_succ])
  refine wpF_take0 (i := 18) (v := ?v43) rfl (by kernel_rfl) (by kernel_rfl) (by kernel_rfl) (fun _ _ _ h => h) (by kernel_rfl) (Or.inl ⟨by rfl, ?hy43⟩) (HS0.out _ st3.out) (fun _ => HS1.out _ st3.out) ?rest43
  case hy43 => (intro W hSW; (try dsimp only at hSW); go_simp; (try with_reducible rfl))
  (try simp only [Act.put, List.setIfInBounds_toArray, List.set_cons_zero, List.set_cons_succ])
  have hcs := cell_blk (HBK.out _ st3.out) 0
  have hfs := frozen_blk (HBK.out _ st3.out) 0
  simp only [List.getElem?_toArray, List.getElem?_cons_zero, List.getElem?_cons_succ] at hcs
  have hbn := Lib.hid (heap_setCell_same w3 g 0 _ _ (.slice AO nO cO) (HBK.out _ st3.out))
  refine wpF_step (i := 19) (by kernel_rfl) rfl (fun K hK => ?_)
  go_simp
  refine hK.out _ _ trivial (gone (by kernel_rfl)) ?_
  clear hK K hcs hfs
  (try simp only [Act.put, List.setIfInBounds_toArray, List.set_cons_zero, List.set_cons_succ])
  refine wpF_done (by kernel_rfl) ?_ _
  refine NoPanic.normal ?_
  have rO := oO.out.rs
  rw [show s.ms.take i ++ s.ms.drop (i + 1) = s.ms.eraseIdx i from (List.eraseIdx_eq_take_drop_succ ..).symm] at rO
  have hnO := rO.shape.1
  subst hnO
  exact hK2.out _ _ _ _ _ _ _ _ _ _ _ _ _ _ _ _ _ _ _ _  (Lib.hid ⟨_, _, hbn.out, rO.seti (g := g) (i := 0) (fun h => by have h1 := HGL.out; rcases h with h | h; omega; exact hB h) _, (e3.out.upd (fun b => b = g)).set (S := fun b => b = g) (.inl rfl) _⟩)

set_option maxRecDepth 1000000 in
set_option maxHeartbeats 4000000 in
theorem rl5 {K : Act → World → Prop} {Q : Exit → Act → World → Prop} {w : World} {c1 c2 c3 c4 c6 c7 c8 c9 c10 c11 c12 c13 c14 c15 c16 c17 c18 c19 c20 c21 c22 c23 c24 c25 c26 c27 c28 c29 c30 c31 c32 c33 c34 c35 c36 c37 c38 c39 c40 c41 c42 c43 c44 c45 c46 c47 c48 : Value} (g i : Nat) (B : Nat → Prop) (s : BagS) (A : Option Addr) (c : Nat) (v0 v1 v2 : Value) (hb : Hid (w.heap[g]? = some (.cells #[v0, .slice A s.ids.length c, v2] 50 (0, 0)))) (hr : Hid (Rs kInt w B (.slice A s.ids.length c) s.ids)) (hB : ¬ B g) (hi : i < s.ids.length) (h256 : s.ids.length ≤ 256)
    (hK : ∀ (u30 u31 u32 u33 u34 u35 u36 u37 u38 u39 u40 u41 u42 u43 u44 u45 u46 u47 u48 : Value) (wx : World), Hid (∃ A' c', wx.heap[g]? = some (.cells #[v0, .slice A' (s.ids.eraseIdx i).length c', v2] 50 (0, 0)) ∧ Rs kInt wx (fun b => w.heap.size ≤ b ∨ B b) (.slice A' (s.ids.eraseIdx i).length c') (s.ids.eraseIdx i) ∧ Upd (fun b => b = g) w wx) → K ⟨#[.pointer (some ⟨g, 0, none⟩), c1, c2, c3, c4, .int .i64 (i : Int), c6, c7, c8, c9, c10, c11, c12, c13, c14, c15, c16, c17, c18, c19, c20, c21, c22, c23, c24, c25, c26, c27, c28, c29, u30, u31, u32, u33, u34, u35, u36, u37, u38, u39, u40, u41, u42, u43, u44, u45, u46, u47, u48], []⟩ wx) :
    Code.wp Try.prog ((Try.f27.body.bind (regionAt 5)).getD .skip) (Exit.then K Q) ⟨#[.pointer (some ⟨g, 0, none⟩), c1, c2, c3, c4, .int .i64 (i : Int), c6, c7, c8, c9, c10, c11, c12, c13, c14, c15, c16, c17, c18, c19, c20, c21, c22, c23, c24, c25, c26, c27, c28, c29, c30, c31, c32, c33, c34, c35, c36, c37, c38, c39, c40, c41, c42, c43, c44, c45, c46, c47, c48], []⟩ w := by
  conv => arg 2; whnf
  have hK2 := Lib.hid @hK
  obtain ⟨ST, hST⟩ : ∃ ST : World → Prop, ST = fun W => W.heap[g]? = some (.cells #[v0, .slice A s.ids.length c, v2] 50 (0, 0)) := ⟨_, rfl⟩
  have HS0 := Lib.hid (show ∀ W : World, ST W → True by rw [hST]; exact fun W h => trivial)
  have HS1 := Lib.hid (show ∀ W : World, ST W → W.cell? ⟨g, 1, none⟩ = some (.slice A s.ids.length c) by rw [hST]; exact fun W h => cell_blk h 1)
  have HBK := Lib.hid (show ∀ W : World, ST W → W.heap[g]? = some (.cells #[v0, .slice A s.ids.length c, v2] 50 (0, 0)) by rw [hST]; exact fun W h => h)
  have HEXT := Lib.hid (show ∀ W W' : World, ST W → Ext W W' → ST W' by rw [hST]; exact fun W W' h hx => blk_ext h hx)
  have HGL := Lib.hid (show g < w.heap.size from blk_lt hb.out)
  have HB := Lib.hid (show Rs kInt w (fun b => B b ∧ b < w.heap.size) (.slice A s.ids.length c) s.ids from hr.out.bound)
  have HP1 := Lib.hid (show Rs kInt w (fun b => B b ∧ b < w.heap.size) (partZ A c 0 i 1) (s.ids.take i) from HB.out.toz (by omega))
  have HP2 := Lib.hid (show Rs kInt w (fun b => B b ∧ b < w.heap.size) (partZ A c (i + 1) s.ids.length 1) (s.ids.drop (i + 1)) from HB.out.fromz (by omega))
  have HCAP := Lib.hid (show s.ids.length ≤ c from hr.out.shape.2.1)
  have hs1 := fun W => sliceZ_to (P := Try.prog) tInts A s.ids.length c .i64 (i : Int) i rfl (by have := HCAP.out; omega) W
  have hs2 := fun W => sliceZ_from (P := Try.prog) tInts A s.ids.length c .i64 ((i : Int) + 1) (i + 1) (by omega) (by omega) W
  simp only [partZ_eq, Nat.sub_zero] at hs1 hs2 HP1 HP2
  have hwi : IntKind.i64.wrap ((i : Int) + 1) = (i : Int) + 1 := IntWalk.i64_in _ (by omega)
  have HSZ := Lib.hid (show (([] : List Int).length + (s.ids.take i).length) * 8 ≤ 140737488355328 ∧ ((s.ids.take i).length + (s.ids.drop (i + 1)).length) * 8 ≤ 140737488355328 by simp; omega)
  have HGR := Lib.hid (show ∀ (W W' : World) (r : Option Nat), ST W → W.grownBy W' r → (∀ k, r = some k → w.heap.size ≤ k) → ST W' by rw [hST]; exact fun W W' r h hg hr => (hg.block g (blk_lt h) (fun e => by have h1 := hr g e.symm; have h2 := HGL.out; omega)).trans h)
  have HST0 := Lib.hid (show ∀ (W : World) (v : Value), ST W → True by rw [hST]; exact fun W v h => trivial)
  obtain ⟨w0, hw0⟩ : ∃ W, W = w.drew := ⟨_, rfl⟩
  have e0 := Lib.hid (show Ext w w0 by rw [hw0]; exact (Ext.refl w).drew)
  have st0 := Lib.hid (show ST w0 by rw [hw0, hST]; exact hb.out)
  have z0 := Lib.hid (show w0.heap.size = w.heap.size by rw [hw0]; rfl)
  clear hK hST
  refine wpF_region (fun W => True) (fun W => W.cell? ⟨g, 1, none⟩ = some (.slice A s.ids.length c)) 19 20 (by kernel_rfl) (by kernel_rfl) ?_
  rw [← hw0]
  clear hw0
  refine wpF_take0 (i := 0) (v := ?v44) rfl (by kernel_rfl) (by kernel_rfl) (by kernel_rfl) (fun _ _ _ h => h) (by kernel_rfl) (Or.inl ⟨by rfl, ?hy44⟩) (HS0.out _ st0.out) (fun _ => HS1.out _ st0.out) ?rest44
  case hy44 => (intro W hSW; (try dsimp only at hSW); go_simp; (try with_reducible rfl))
  (try simp only [Act.put, List.setIfInBounds_toArray, List.set_cons_zero, List.set_cons_succ])
  refine wpF_take0 (i := 2) (v := ?v45) rfl (by kernel_rfl) (by kernel_rfl) (by kernel_rfl) (fun _ _ _ h => h) (by kernel_rfl) (Or.inl ⟨by rfl, ?hy45⟩) (HS0.out _ st0.out) (fun _ => HS1.out _ st0.out) ?rest45
  case hy45 => (intro W hSW; (try dsimp only at hSW); go_simp; (try with_reducible rfl))
  (try simp only [Act.put, List.setIfInBounds_toArray, List.set_cons_zero, List.set_cons_succ])
  refine wpF_take0 (i := 3) (v := ?v46) rfl (by kernel_rfl) (by kernel_rfl) (by kernel_rfl) (fun _ _ _ h => h) (by kernel_rfl) (Or.inl ⟨by rfl, ?hy46⟩) (HS0.out _ st0.out) (fun _ => HS1.out _ st0.out) ?rest46
  case hy46 => (intro W hSW; (try dsimp only at hSW); go_simp; (try with_reducible rfl))
  (try simp only [Act.put, List.setIfInBounds_toArray, List.set_cons_zero, List.set_cons_succ])
  refine wpF_take0 (i := 4) (v := ?v47) rfl (by kernel_rfl) (by kernel_rfl) (by kernel_rfl) (fun _ _ _ h => h) (by kernel_rfl) (Or.inl ⟨by rfl, ?hy47⟩) (HS0.out _ st0.out) (fun _ => HS1.out _ st0.out) ?rest47
  case hy47 => (intro W hSW; (try dsimp only at hSW); go_simp; (try with_reducible rfl))
  (try simp only [Act.put, List.setIfInBounds_toArray, List.set_cons_zero, List.set_cons_succ])
  refine wpF_take1 (i := 5) (v := ?v48) rfl (by kernel_rfl) (by kernel_rfl) (by kernel_rfl) (fun _ _ _ h => h) (by kernel_rfl) (by kernel_rfl) (by kernel_rfl) (Or.inl ⟨by rfl, ?hy48⟩) (HS0.out _ st0.out) (fun _ => HS1.out _ st0.out) ?rest48
  case hy48 => (intro W hSW; (try dsimp only at hSW); go_simp; (try with_reducible rfl))
  (try simp only [Act.put, List.setIfInBounds_toArray, List.set_cons_zero, List.set_cons_succ])
  refine wpF_take0 (i := 6) (v := ?v49) rfl (by kernel_rfl) (by kernel_rfl) (by kernel_rfl) (fun _ _ _ h => h) (by kernel_rfl) (Or.inl ⟨by rfl, ?hy49⟩) (HS0.out _ st0.out) (fun _ => HS1.out _ st0.out) ?rest49
  case hy49 => (intro W hSW; (try dsimp only at hSW); go_simp; (try with_reducible rfl))
  (try simp only [Act.put, List.setIfInBounds_toArray, List.set_cons_zero, List.set_cons_succ])
  refine wpF_take0 (i := 7) (v := ?v50) rfl (by kernel_rfl) (by kernel_rfl) (by kernel_rfl) (fun _ _ _ h => h) (by kernel_rfl) (Or.inl ⟨by rfl, ?hy50⟩) (HS0.out _ st0.out) (fun _ => HS1.out _ st0.out) ?rest50
  case hy50 => (intro W hSW; (try dsimp only at hSW); go_simp; (try with_reducible rfl))
  (try simp only [Act.put, List.setIfInBounds_toArray, List.set_cons_zero, List.set_cons_succ])
  refine wpF_take0 (i := 9) (v := ?v51) rfl (by kernel_rfl) (by kernel_rfl) (by kernel_rfl) (fun _ _ _ h => h) (by kernel_rfl) (Or.inl ⟨by rfl, ?hy51⟩) (HS0.out _ st0.out) (fun _ => HS1.out _ st0.out) ?rest51
  case hy51 => (intro W hSW; (try dsimp only at hSW); go_simp; (try with_reducible rfl))
  (try simp only [Act.put, List.setIfInBounds_toArray, List.set_cons_zero, List.set_cons_succ])
  refine wpF_take0 (i := 10) (v := ?v52) rfl (by kernel_rfl) (by kernel_rfl) (by kernel_rfl) (fun _ _ _ h => h) (by kernel_rfl) (Or.inl ⟨by rfl, ?hy52⟩) (HS0.out _ st0.out) (fun _ => HS1.out _ st0.out) ?rest52
  case hy52 => (intro W hSW; (try dsimp only at hSW); go_simp; (try with_reducible rfl))
  (try simp only [Act.put, List.setIfInBounds_toArray, List.set_cons_zero, List.set_cons_succ])
  refine wpF_take0 (i := 11) (v := ?v53) rfl (by kernel_rfl) (by kernel_rfl) (by kernel_rfl) (fun _ _ _ h => h) (by kernel_rfl) (Or.inl ⟨by rfl, ?hy53⟩) (HS0.out _ st0.out) (fun _ => HS1.out _ st0.out) ?rest53
  case hy53 => (intro W hSW; (try dsimp only at hSW); go_simp; (try with_reducible rfl))
  (try simp only [Act.put, List.setIfInBounds_toArray, List.set_cons_zero, List.set_cons_succ])
  refine wpF_take1 (i := 12) (v := ?v54) rfl (by kernel_rfl) (by kernel_rfl) (by kernel_rfl) (fun _ _ _ h => h) (by kernel_rfl) (by kernel_rfl) (by kernel_rfl) (Or.inl ⟨by rfl, ?hy54⟩) (HS0.out _ st0.out) (fun _ => HS1.out _ st0.out) ?rest54
  case hy54 => (intro W hSW; (try dsimp only at hSW); go_simp; (try with_reducible rfl))
  (try simp only [Act.put, List.setIfInBounds_toArray, List.set_cons_zero, List.set_cons_succ])
  refine wpF_take0 (i := 13) (v := ?v55) rfl (by kernel_rfl) (by kernel_rfl) (by kernel_rfl) (fun _ _ _ h => h) (by kernel_rfl) (Or.inl ⟨by rfl, ?hy55⟩) (HS0.out _ st0.out) (fun _ => HS1.out _ st0.out) ?rest55
  case hy55 => (intro W hSW; (try dsimp only at hSW); go_simp; (try with_reducible rfl))
  (try simp only [Act.put, List.setIfInBounds_toArray, List.set_cons_zero, List.set_cons_succ])
  refine wpF_take0 (i := 14) (v := ?v56) rfl (by kernel_rfl) (by kernel_rfl) (by kernel_rfl) (fun _ _ _ h => h) (by kernel_rfl) (Or.inl ⟨by rfl, ?hy56⟩) (HS0.out _ st0.out) (fun _ => HS1.out _ st0.out) ?rest56
  case hy56 => (intro W hSW; (try dsimp only at hSW); go_simp; (try with_reducible rfl))
  (try simp only [Act.put, List.setIfInBounds_toArray, List.set_cons_zero, List.set_cons_succ])
  refine wpF_take0 (i := 15) (v := ?v57) rfl (by kernel_rfl) (by kernel_rfl) (by kernel_rfl) (fun _ _ _ h => h) (by kernel_rfl) (Or.inl ⟨by rfl, ?hy57⟩) (HS0.out _ st0.out) (fun _ => HS1.out _ st0.out) ?rest57
  case hy57 => (intro W hSW; (try dsimp only at hSW); go_simp; (try with_reducible rfl))
  (try simp only [Act.put, List.setIfInBounds_toArray, List.set_cons_zero, List.set_cons_succ])
  refine wpF_step (i := 1) (by kernel_rfl) rfl (fun K hK => ?_)
  go_simp
  obtain ⟨w1, hw1⟩ : ∃ W, W = w0.alloc (.cells #[] 3) := ⟨_, rfl⟩
  have x1 := Lib.hid (show Ext w0 w1 by rw [hw1]; exact (Ext.refl _).alloc _)
  have tE := Lib.hid (show w1.heap[w0.heap.size]? = some (.cells #[] 3) by rw [hw1]; exact heap_new w0 _ rfl _)
  have z1 := Lib.hid (show w1.heap.size = w0.heap.size + 1 by rw [hw1]; simp)
  have st1 := Lib.hid (HEXT.out _ _ st0.out x1.out)
  have e1 := Lib.hid (e0.out.trans x1.out)
  (try unfold msgC at hw1)
  rw [← hw1]
  clear hw1
  refine hK.out _ _ (HS0.out _ st1.out) (fun _ => HS1.out _ st1.out) ?_
  clear hK K
  (try simp only [Act.put, List.setIfInBounds_toArray, List.set_cons_zero, List.set_cons_succ])
  obtain ⟨b33, hb33⟩ : ∃ b, b = w0.heap.size := ⟨_, rfl⟩
  rw [← hb33]
  have HB33 := Lib.hid hb33
  clear hb33
  have oE := Lib.hid (show Ow kInt 3 w1 w.heap.size (fun b => w.heap.size ≤ b ∨ B b) (.slice (some ⟨b33, 0, none⟩) 0 0) [] from Ow.mt (by rw [HB33.out]; exact tE.out) (by rw [HB33.out]; exact e0.out.le) (.inl (by rw [HB33.out]; exact e0.out.le)))
  refine wpF_step (i := 8) (by kernel_rfl) rfl (fun K hK => ?_)
  refine step_append_Rs kInt 38 rfl rfl (.tmp 31) (.tmp 37) 23 3 rfl tInts w.heap.size _ _ ([]) (s.ids.take i) (fun b => w.heap.size ≤ b ∨ B b) (fun b => B b ∧ b < w.heap.size) rfl rfl oE.out (HP1.out.ext e1.out) (fun y cs hy => kInt.mono (fun b hb => ⟨.inr hb.1, fun e => by have h1 := oE.out.from_ b e.symm; have h2 := hb.2; omega⟩) hy) (fun b hb => .inl (Nat.le_trans e1.out.le hb)) HSZ.out.1 e1.out.le ?_
  intro vA w2 ho hg hq
  rw [List.nil_append] at ho
  have hrr : ∀ k, (.slice (some ⟨b33, 0, none⟩) 0 0 : Value).ownBlock = some k → w.heap.size ≤ k := fun k hk => oE.out.from_ k hk
  have oA := Lib.hid ho
  have st2 := Lib.hid (HGR.out _ _ _ st1.out hg hrr)
  have e2 := Lib.hid (e1.out.grown hg hrr)
  obtain ⟨AA, nA, cA, eQ⟩ : ∃ A n c, vA = .slice A n c := by obtain ⟨A, c, e, _⟩ := id ho.rs; exact ⟨_, _, _, e⟩
  subst eQ
  clear ho hg hq hrr
  refine hK.out _ _ (HS0.out _ st2.out) (fun _ => HS1.out _ st2.out) ?_
  clear hK K
  (try simp only [Act.put, List.setIfInBounds_toArray, List.set_cons_zero, List.set_cons_succ])
  refine wpF_step (i := 16) (by kernel_rfl) rfl (fun K hK => ?_)
  refine step_append_Rs kInt 46 rfl rfl (.tmp 38) (.tmp 45) 23 3 rfl tInts w.heap.size _ _ (s.ids.take i) (s.ids.drop (i + 1)) (fun b => w.heap.size ≤ b ∨ B b) (fun b => B b ∧ b < w.heap.size) rfl rfl oA.out (HP2.out.ext e2.out) (fun y cs hy => kInt.mono (fun b hb => ⟨.inr hb.1, fun e => by have h1 := oA.out.from_ b e.symm; have h2 := hb.2; omega⟩) hy) (fun b hb => .inl (Nat.le_trans e2.out.le hb)) HSZ.out.2 e2.out.le ?_
  intro vO w3 ho hg hq
  have hrr : ∀ k, (.slice AA nA cA : Value).ownBlock = some k → w.heap.size ≤ k := fun k hk => oA.out.from_ k hk
  have oO := Lib.hid ho
  have st3 := Lib.hid (HGR.out _ _ _ st2.out hg hrr)
  have e3 := Lib.hid (e2.out.grown hg hrr)
  obtain ⟨AO, nO, cO, eQ⟩ : ∃ A n c, vO = .slice A n c := by obtain ⟨A, c, e, _⟩ := id ho.rs; exact ⟨_, _, _, e⟩
  subst eQ
  clear ho hg hq hrr
  refine hK.out _ _ (HS0.out _ st3.out) (fun _ => HS1.out _ st3.out) ?_
  clear hK K
  (try simp only [Act.put, List.setIfInBounds_toArray, List.set_cons_zero, List.set_cons_succ])
  refine wpF_take0 (i := 17) (v := ?v58) rfl (by kernel_rfl) (by kernel_rfl) (by kernel_rfl) (fun _ _ _ h => h) (by kernel_rfl) (Or.inl ⟨by rfl, ?hy58⟩) (HS0.out _ st3.out) (fun _ => HS1.out _ st3.out) ?rest58
  case hy58 => (intro W hSW; (try dsimp only at hSW); go_simp; (try with_reducible rfl))
  (try simp only [Act.put, List.setIfInBounds_toArray, List.set_cons_zero, List.set_cons_succ])
  refine wpF_take0 (i := 18) (v := ?v59) rfl (by kernel_rfl) (by kernel_rfl) (by kernel_rfl) (fun _ _ _ h => h) (by kernel_rfl) (Or.inl ⟨by rfl, ?hy59⟩) (HS0.out _ st3.out) (fun _ => HS1.out _ st3.out) ?rest59
  case hy59 => (intro W hSW; (try dsimp only at hSW); go_simp; (try with_reducible rfl))
  (try simp only [Act.put, List.setIfInBounds_toArray, List.set_cons_zero, List.set_cons_succ])
  have hcs := cell_blk (HBK.out _ st3.out) 1
  have hfs := frozen_blk (HBK.out _ st3.out) 1
  simp only [List.getElem?_toArray, List.getElem?_cons_zero, List.getElem?_cons_succ] at hcs
  have hbn := Lib.hid (heap_setCell_same w3 g 1 _ _ (.slice AO nO cO) (HBK.out _ st3.out))
  refine wpF_step (i := 19) (by kernel_rfl) rfl (fun K hK => ?_)
  go_simp
  refine hK.out _ _ trivial (gone (by kernel_rfl)) ?_
  clear hK K hcs hfs
  (try simp only [Act.put, List.setIfInBounds_toArray, List.set_cons_zero, List.set_cons_succ])
  refine wpF_done (by kernel_rfl) ?_ _
  refine NoPanic.normal ?_
  have rO := oO.out.rs
  rw [show s.ids.take i ++ s.ids.drop (i + 1) = s.ids.eraseIdx i from (List.eraseIdx_eq_take_drop_succ ..).symm] at rO
  have hnO := rO.shape.1
  subst hnO
  exact hK2.out _ _ _ _ _ _ _ _ _ _ _ _ _ _ _ _ _ _ _ _  (Lib.hid ⟨_, _, hbn.out, rO.seti (g := g) (i := 1) (fun h => by have h1 := HGL.out; rcases h with h | h; omega; exact hB h) _, (e3.out.upd (fun b => b = g)).set (S := fun b => b = g) (.inl rfl) _⟩)
end Go.Proofs.Ytfflcnlgkbgbhaa
