/-
  Texts of this claim, put together: KeepP.
-/
import Derived.Test.YtfflcnlgkbgbhaaZ28
set_option linter.unusedVariables false
set_option linter.unusedSimpArgs false
namespace Go.Proofs.Ytfflcnlgkbgbhaa
open Go.RowKit

set_option maxRecDepth 1000000 in
set_option maxHeartbeats 16000000 in
theorem kp17 {Q : Exit → Act → World → Prop} {w : World} {c0 c1 c2 c3 c7 c8 c9 c10 c11 c12 c14 c15 c16 c17 c18 c19 c20 c21 c22 c23 c24 c25 c26 c27 c28 c29 c30 c31 c32 c33 c34 c35 c36 c37 c38 c39 c40 c41 c42 c43 c44 c45 c46 c47 c48 c49 c50 c51 c52 c53 c54 c55 c56 c57 c58 c59 c60 c61 c62 c63 c64 c65 c66 c67 c68 c69 c70 c71 c72 c73 c74 c75 c76 c77 c78 c79 c80 c81 c82 c83 c84 c85 c86 c87 c88 c89 c90 c91 c92 c93 c94 c95 c96 c97 c98 c99 c100 c101 c102 c103 c104 c105 c106 c107 c108 c109 c110 c111 c112 c113 c114 c115 c116 c117 c118 c119 c120 c121 c122 c123 c124 c125 c126 c127 c128 c129 c130 c131 c132 c133 c134 c135 c136 c137 c138 c139 c140 c141 c142 c143 c144 c145 c146 c147 c148 c149 c150 c151 c152 c153 c154 c155 c156 c157 c158 c159 c160 c161 c162 c163 : Value} (g : Nat) (s : BagS) (m : MsgS) (At Ai Ae Av Ad : Option Addr) (ct ci ce cv cd : Nat) (n : Int) (ht : Hid (Rs kMsg w (· ≠ g) (.slice At s.ms.length ct) s.ms)) (hi : Hid (Rs kInt w (· ≠ g) (.slice Ai s.ids.length ci) s.ids)) (hm : Hid (MsgV w (· ≠ g) (.agg (msgC m (.slice Ae m.entries.length ce) (.slice Av m.voters.length cv) (.slice Ad m.data.length cd))) m)) (hl1 : s.ms.length ≤ 256) (hl2 : s.ids.length ≤ 256) (hn : I64 n) (hgl : g < w.heap.size) (q : Nat) (hq : Hid (w.heap[q]? = some (.cells (msgC m (.slice Ae m.entries.length ce) (.slice Av m.voters.length cv) (.slice Ad m.data.length cd)) 26 (0, 0))))
    (hK : ∀ (u4 u5 u52 u53 u54 u55 u56 u57 u58 u59 u60 u61 : Value) (wx : World), Hid (Rs kMsg wx (· ≠ g) u4 (s.ms ++ [m]) ∧ Rs kInt wx (· ≠ g) u5 (s.ids ++ [n]) ∧ Ext w wx) → Q .normal ⟨#[c0, c1, c2, c3, u4, u5, .int .i64 n, c7, c8, c9, c10, c11, c12, .pointer (some ⟨q, 0, none⟩), c14, c15, c16, c17, c18, c19, c20, c21, c22, c23, c24, c25, c26, c27, c28, c29, c30, c31, c32, c33, c34, c35, c36, c37, c38, c39, c40, c41, c42, c43, c44, c45, c46, c47, c48, c49, c50, c51, u52, u53, u54, u55, u56, u57, u58, u59, u60, u61, c62, c63, c64, c65, c66, c67, c68, c69, c70, c71, c72, c73, c74, c75, c76, c77, c78, c79, c80, c81, c82, c83, c84, c85, c86, c87, c88, c89, c90, c91, c92, c93, c94, c95, c96, c97, c98, c99, c100, c101, c102, c103, c104, c105, c106, c107, c108, c109, c110, c111, c112, c113, c114, c115, c116, c117, c118, c119, c120, c121, c122, c123, c124, c125, c126, c127, c128, c129, c130, c131, c132, c133, c134, c135, c136, c137, c138, c139, c140, c141, c142, c143, c144, c145, c146, c147, c148, c149, c150, c151, c152, c153, c154, c155, c156, c157, c158, c159, c160, c161, c162, c163], []⟩ wx) :
    Code.wp Try.prog ((Try.f9.body.bind (regionAt 17)).getD .skip) Q ⟨#[c0, c1, c2, c3, .slice At s.ms.length ct, .slice Ai s.ids.length ci, .int .i64 n, c7, c8, c9, c10, c11, c12, .pointer (some ⟨q, 0, none⟩), c14, c15, c16, c17, c18, c19, c20, c21, c22, c23, c24, c25, c26, c27, c28, c29, c30, c31, c32, c33, c34, c35, c36, c37, c38, c39, c40, c41, c42, c43, c44, c45, c46, c47, c48, c49, c50, c51, c52, c53, c54, c55, c56, c57, c58, c59, c60, c61, c62, c63, c64, c65, c66, c67, c68, c69, c70, c71, c72, c73, c74, c75, c76, c77, c78, c79, c80, c81, c82, c83, c84, c85, c86, c87, c88, c89, c90, c91, c92, c93, c94, c95, c96, c97, c98, c99, c100, c101, c102, c103, c104, c105, c106, c107, c108, c109, c110, c111, c112, c113, c114, c115, c116, c117, c118, c119, c120, c121, c122, c123, c124, c125, c126, c127, c128, c129, c130, c131, c132, c133, c134, c135, c136, c137, c138, c139, c140, c141, c142, c143, c144, c145, c146, c147, c148, c149, c150, c151, c152, c153, c154, c155, c156, c157, c158, c159, c160, c161, c162, c163], []⟩ w := by
  conv => arg 2; whnf
  have hK2 := Lib.hid @hK
  obtain ⟨w0, hw0⟩ : ∃ W, W = w.drew := ⟨_, rfl⟩
  have e0 := Lib.hid (show Ext w w0 by rw [hw0]; exact (Ext.refl w).drew)
  have z0 := Lib.hid (show w0.heap.size = w.heap.size by rw [hw0]; rfl)
  have HGL := Lib.hid hgl
  have HSE := Lib.hid (show ∀ W : World, Ext w W → W.cell? ⟨q, 0, none⟩ = some (.int .i64 m.kind) ∧ W.cell? ⟨q, 1, none⟩ = some (.int .i64 m.from_) ∧ W.cell? ⟨q, 2, none⟩ = some (.int .i64 m.to_) ∧ W.cell? ⟨q, 3, none⟩ = some (.int .i64 m.term) ∧ W.cell? ⟨q, 4, none⟩ = some (.int .i64 m.index) ∧ W.cell? ⟨q, 5, none⟩ = some (.int .i64 m.logTerm) ∧ W.cell? ⟨q, 6, none⟩ = some (.int .i64 m.commit) ∧ W.cell? ⟨q, 7, none⟩ = some (.int .i64 m.round) ∧ W.cell? ⟨q, 8, none⟩ = some (.bool m.yes) ∧ W.cell? ⟨q, 9, none⟩ = some (.bool m.done) ∧ W.cell? ⟨q, 10, none⟩ = some (.slice Ae m.entries.length ce) ∧ W.cell? ⟨q, 11, none⟩ = some (.slice Av m.voters.length cv) ∧ W.cell? ⟨q, 12, none⟩ = some (.slice Ad m.data.length cd) from fun W hx => by have h := blk_ext hq.out hx; exact ⟨cell_blk h 0, cell_blk h 1, cell_blk h 2, cell_blk h 3, cell_blk h 4, cell_blk h 5, cell_blk h 6, cell_blk h 7, cell_blk h 8, cell_blk h 9, cell_blk h 10, cell_blk h 11, cell_blk h 12⟩)
  have HSZ := Lib.hid (show s.ms.length * 144 ≤ 140737488355328 ∧ s.ids.length * 8 ≤ 140737488355328 ∧ (s.ms.length + [m].length) * 144 ≤ 140737488355328 ∧ (s.ids.length + [n].length) * 8 ≤ 140737488355328 from ⟨by omega, by omega, by simp; omega, by simp; omega⟩)
  clear hK hgl
  refine wpF_region (fun W => W.cell? ⟨q, 0, none⟩ = some (.int .i64 m.kind) ∧ W.cell? ⟨q, 1, none⟩ = some (.int .i64 m.from_) ∧ W.cell? ⟨q, 2, none⟩ = some (.int .i64 m.to_) ∧ W.cell? ⟨q, 3, none⟩ = some (.int .i64 m.term) ∧ W.cell? ⟨q, 4, none⟩ = some (.int .i64 m.index) ∧ W.cell? ⟨q, 5, none⟩ = some (.int .i64 m.logTerm) ∧ W.cell? ⟨q, 6, none⟩ = some (.int .i64 m.commit) ∧ W.cell? ⟨q, 7, none⟩ = some (.int .i64 m.round) ∧ W.cell? ⟨q, 8, none⟩ = some (.bool m.yes) ∧ W.cell? ⟨q, 9, none⟩ = some (.bool m.done) ∧ W.cell? ⟨q, 10, none⟩ = some (.slice Ae m.entries.length ce) ∧ W.cell? ⟨q, 11, none⟩ = some (.slice Av m.voters.length cv) ∧ W.cell? ⟨q, 12, none⟩ = some (.slice Ad m.data.length cd)) (fun _ => True) 99 12 (by kernel_rfl) (by kernel_rfl) ?_
  rw [← hw0]
  clear hw0
  refine wpF_take0 (i := 0) (v := ?v1) rfl (by kernel_rfl) (by kernel_rfl) (by kernel_rfl) (fun _ _ _ h => h) (by kernel_rfl) (Or.inl ⟨by rfl, ?hy1⟩) (HSE.out _ e0.out) (gone (by kernel_rfl)) ?rest1
  case hy1 => (intro W hSW; (try dsimp only at hSW); go_simp; (try with_reducible rfl))
  (try simp only [Act.put, List.setIfInBounds_toArray, List.set_cons_zero, List.set_cons_succ])
  refine wpF_take0 (i := 2) (v := ?v2) rfl (by kernel_rfl) (by kernel_rfl) (by kernel_rfl) (fun _ _ _ h => h) (by kernel_rfl) (Or.inl ⟨by rfl, ?hy2⟩) (HSE.out _ e0.out) (gone (by kernel_rfl)) ?rest2
  case hy2 => (intro W hSW; (try dsimp only at hSW); go_simp; (try with_reducible rfl))
  (try simp only [Act.put, List.setIfInBounds_toArray, List.set_cons_zero, List.set_cons_succ])
  refine wpF_take0 (i := 5) (v := ?v3) rfl (by kernel_rfl) (by kernel_rfl) (by kernel_rfl) (fun _ _ _ h => h) (by kernel_rfl) (Or.inl ⟨by rfl, ?hy3⟩) (HSE.out _ e0.out) (gone (by kernel_rfl)) ?rest3
  case hy3 => (intro W hSW; (try dsimp only at hSW); go_simp; (try with_reducible rfl))
  (try simp only [Act.put, List.setIfInBounds_toArray, List.set_cons_zero, List.set_cons_succ])
  refine wpF_take0 (i := 7) (v := ?v4) rfl (by kernel_rfl) (by kernel_rfl) (by kernel_rfl) (fun _ _ _ h => h) (by kernel_rfl) (Or.inl ⟨by rfl, ?hy4⟩) (HSE.out _ e0.out) (gone (by kernel_rfl)) ?rest4
  case hy4 => (intro W hSW; (try dsimp only at hSW); go_simp; (try with_reducible rfl))
  (try simp only [Act.put, List.setIfInBounds_toArray, List.set_cons_zero, List.set_cons_succ])
  refine wpF_step3 (i := 1) (j := 3) (k := 8) (by kernel_rfl) rfl rfl rfl (fun K hK => ?_) (fun K hK => ?_) (fun K hK => ?_)
  · go_simp
    refine (CloneMsg_calls w0 (· ≠ g) _ s.ms (ht.out.ext e0.out) HSZ.out.1).mono ?_
    rintro e w1 ⟨vC, rfl, ho, hx⟩
    have e1 := Lib.hid (e0.out.trans hx)
    have z1 := Lib.hid (show w0.heap.size ≤ w1.heap.size from hx.le)
    have qC := Lib.hid (show ∀ k, vC.ownBlock = some k → w0.heap.size ≤ k ∧ k < w1.heap.size from fun k hk => ⟨ho.from_ k hk, ho.lt k hk⟩)
    have oC1 := Lib.hid (show Ow kMsg 26 w1 w0.heap.size (· ≠ g) vC s.ms from ho.mono (fun b hb => by have h1 := HGL.out; have hz0 := z0.out; rcases hb with hb | hb; omega; exact hb))
    obtain ⟨AC, nC, cC_, ev⟩ : ∃ A n c, vC = .slice A n c := by obtain ⟨A, c, e, _⟩ := _root_.id oC1.out.rs; exact ⟨_, _, _, e⟩
    subst ev
    clear ho hx
    (try go_wp2_with fail)
    refine hK.out _ _ (HSE.out _ e1.out) (gone (by kernel_rfl)) ?_
    clear hK K
    (try simp only [Act.put, List.setIfInBounds_toArray, List.set_cons_zero, List.set_cons_succ])
    refine wpF_step2 (i := 3) (j := 8) (by kernel_rfl) rfl rfl (fun K hK => ?_) (fun K hK => ?_)
    · go_simp
      obtain ⟨w2, hw⟩ : ∃ W, W = w1.alloc (.cells (msgC m (.slice Ae m.entries.length ce) (.slice Av m.voters.length cv) (.slice Ad m.data.length cd)) 26) := ⟨_, rfl⟩
      have hx : Ext w1 w2 := by rw [hw]; exact (Ext.refl _).alloc _
      have tb := heap_new w1 _ rfl (.cells (msgC m (.slice Ae m.entries.length ce) (.slice Av m.voters.length cv) (.slice Ad m.data.length cd)) 26)
      rw [← hw] at tb
      have e2 := Lib.hid (e1.out.trans hx)
      have z2 := Lib.hid (show w1.heap.size ≤ w2.heap.size ∧ w1.heap.size < w2.heap.size from ⟨hx.le, blk_lt tb⟩)
      have oC2 := Lib.hid (oC1.out.ext hx)
      (try unfold msgC at hw)
      rw [← hw]
      clear hw hx
      refine hK.out _ _ (HSE.out _ e2.out) (gone (by kernel_rfl)) ?_
      clear hK K
      (try simp only [Act.put, List.setIfInBounds_toArray, List.set_cons_zero, List.set_cons_succ])
      obtain ⟨hL, hh⟩ : ∃ b, b = w1.heap.size := ⟨_, rfl⟩
      rw [← hh] at tb ⊢
      have HhL := Lib.hid hh
      clear hh
      have rL2 := Lib.hid (show Rs kMsg w2 (fun b => b = hL ∨ (b ≠ g ∧ b < w.heap.size)) (.slice (some ⟨hL, 0, none⟩) 1 1) [m] from Rs.one_msg tb (.inl rfl) (((hm.out.bound).ext e2.out).mono (fun b hb => .inr hb)))
      clear tb
      refine wpF_step2 (i := 4) (j := 8) (by kernel_rfl) rfl rfl (fun K hK => ?_) (fun K hK => ?_)
      · have hdist : ∀ b, (b = hL ∨ (b ≠ g ∧ b < w.heap.size)) → b ≠ g ∧ some b ≠ (.slice AC nC cC_ : Value).ownBlock := fun b hb => by
          have hz0 := z0.out; have hz1 := z1.out; have hz2 := z2.out; have hH := HhL.out; have h1 := HGL.out
          refine ⟨by rcases hb with hb | hb; omega; exact hb.1, fun e => ?_⟩
          have h8 := qC.out b e.symm
          rcases hb with hb | hb <;> omega
        refine step_append_Rs kMsg 56 rfl rfl (.tmp 53) (.tmp 55) 28 26 rfl tMsgs w0.heap.size _ _ s.ms [m] (· ≠ g) _ rfl rfl oC2.out rL2.out (fun y cs hy => kMsg.mono hdist hy) (fun b hb => by have hz0 := z0.out; have hz1 := z1.out; have hz2 := z2.out; have hH := HhL.out; have h1 := HGL.out; show b ≠ g; omega) HSZ.out.2.2.1 (by have hz0 := z0.out; have hz1 := z1.out; have hz2 := z2.out; have hH := HhL.out; have h1 := HGL.out; omega) ?_
        intro vT w3 ho hg _
        have e3 := Lib.hid (e2.out.grown hg (fun k hk => by have h8 := qC.out k hk; have hz0 := z0.out; have hz1 := z1.out; have hz2 := z2.out; have hH := HhL.out; have h1 := HGL.out; omega))
        have z3 := Lib.hid (show w2.heap.size ≤ w3.heap.size from hg.size)
        have rT3 := Lib.hid (show Rs kMsg w3 (fun b => b ≠ g ∧ b < w3.heap.size) vT (s.ms ++ [m]) from ho.rs.bound)
        obtain ⟨AT, nT, cT_, ev⟩ : ∃ A n c, vT = .slice A n c := by obtain ⟨A, c, e, _⟩ := _root_.id ho.rs; exact ⟨_, _, _, e⟩
        subst ev
        clear ho hg hdist
        refine hK.out _ _ (HSE.out _ e3.out) (gone (by kernel_rfl)) ?_
        clear hK K
        (try simp only [Act.put, List.setIfInBounds_toArray, List.set_cons_zero, List.set_cons_succ])
        refine wpF_step2 (i := 6) (j := 8) (by kernel_rfl) rfl rfl (fun K hK => ?_) (fun K hK => ?_)
        · go_simp
          refine (CloneI_calls w3 (· ≠ g) _ s.ids (hi.out.ext e3.out) HSZ.out.2.1).mono ?_
          rintro e w4 ⟨vD, rfl, ho, hx⟩
          have e4 := Lib.hid (e3.out.trans hx)
          have z4 := Lib.hid (show w3.heap.size ≤ w4.heap.size from hx.le)
          have rT4 := Lib.hid (rT3.out.ext hx)
          have qD := Lib.hid (show ∀ k, vD.ownBlock = some k → w3.heap.size ≤ k ∧ k < w4.heap.size from fun k hk => ⟨ho.from_ k hk, ho.lt k hk⟩)
          have oD4 := Lib.hid (show Ow kInt 3 w4 w3.heap.size (· ≠ g) vD s.ids from ho.mono (fun b hb => by have h1 := HGL.out; have hz0 := z0.out; have hz1 := z1.out; have hz2 := z2.out; have hz3 := z3.out; have h2 : w3.heap.size ≤ b := hb; omega))
          obtain ⟨AD, nD, cD_, ev⟩ : ∃ A n c, vD = .slice A n c := by obtain ⟨A, c, e, _⟩ := _root_.id oD4.out.rs; exact ⟨_, _, _, e⟩
          subst ev
          clear ho hx
          (try go_wp2_with fail)
          refine hK.out _ _ (HSE.out _ e4.out) (gone (by kernel_rfl)) ?_
          clear hK K
          (try simp only [Act.put, List.setIfInBounds_toArray, List.set_cons_zero, List.set_cons_succ])
          refine wpF_step (i := 8) (by kernel_rfl) rfl (fun K hK => ?_)
          go_simp
          obtain ⟨w5, hw⟩ : ∃ W, W = w4.alloc (.cells #[.int .i64 n] 3) := ⟨_, rfl⟩
          have hx : Ext w4 w5 := by rw [hw]; exact (Ext.refl _).alloc _
          have tb := heap_new w4 _ rfl (.cells #[.int .i64 n] 3)
          rw [← hw] at tb
          have e5 := Lib.hid (e4.out.trans hx)
          have z5 := Lib.hid (show w4.heap.size ≤ w5.heap.size ∧ w4.heap.size < w5.heap.size from ⟨hx.le, blk_lt tb⟩)
          have rT5 := Lib.hid (rT4.out.ext hx)
          have oD5 := Lib.hid (oD4.out.ext hx)
          (try unfold msgC at hw)
          rw [← hw]
          clear hw hx
          refine hK.out _ _ (HSE.out _ e5.out) (gone (by kernel_rfl)) ?_
          clear hK K
          (try simp only [Act.put, List.setIfInBounds_toArray, List.set_cons_zero, List.set_cons_succ])
          obtain ⟨hI, hh⟩ : ∃ b, b = w4.heap.size := ⟨_, rfl⟩
          rw [← hh] at tb ⊢
          have HhI := Lib.hid hh
          clear hh
          have tI5 := Lib.hid tb
          clear tb
          refine wpF_step (i := 9) (by kernel_rfl) rfl (fun K hK => ?_)
          refine step_append_Rs kInt 61 rfl rfl (.tmp 58) (.tmp 60) 23 3 rfl tInts w3.heap.size _ _ s.ids [n] (· ≠ g) (fun _ => True) rfl rfl oD5.out (Rs.one_intb tI5.out trivial hn) (fun _ _ h => h) (fun b hb => by have hz0 := z0.out; have hz1 := z1.out; have hz2 := z2.out; have hz3 := z3.out; have hz4 := z4.out; have hz5 := z5.out; have hJ := HhI.out; have h1 := HGL.out; show b ≠ g; omega) HSZ.out.2.2.2 (by have hz0 := z0.out; have hz1 := z1.out; have hz2 := z2.out; have hz3 := z3.out; have hz4 := z4.out; have hz5 := z5.out; have hJ := HhI.out; have h1 := HGL.out; omega) ?_
          intro vI w6 ho hg _
          have e6 := Lib.hid (e5.out.grown hg (fun k hk => by have h8 := qD.out k hk; have hz0 := z0.out; have hz1 := z1.out; have hz2 := z2.out; have hz3 := z3.out; have hz4 := z4.out; have hz5 := z5.out; have hJ := HhI.out; have h1 := HGL.out; omega))
          have z6 := Lib.hid (show w5.heap.size ≤ w6.heap.size from hg.size)
          have rT6 := Lib.hid (rT5.out.grown hg (fun k hk hb => by have h8 := qD.out k hk; have h9 := hb.2; have hz0 := z0.out; have hz1 := z1.out; have hz2 := z2.out; have hz3 := z3.out; have hz4 := z4.out; have hz5 := z5.out; have hJ := HhI.out; have h1 := HGL.out; omega))
          have rI6 := Lib.hid (show Rs kInt w6 (· ≠ g) vI (s.ids ++ [n]) from ho.rs)
          obtain ⟨AI, nI, cI_, ev⟩ : ∃ A n c, vI = .slice A n c := by obtain ⟨A, c, e, _⟩ := _root_.id ho.rs; exact ⟨_, _, _, e⟩
          subst ev
          clear ho hg
          refine hK.out _ _ (HSE.out _ e6.out) (gone (by kernel_rfl)) ?_
          clear hK K
          (try simp only [Act.put, List.setIfInBounds_toArray, List.set_cons_zero, List.set_cons_succ])
          refine wpF_take0 (i := 10) (v := ?v5) rfl (by kernel_rfl) (by kernel_rfl) (by kernel_rfl) (fun _ _ _ h => h) (by kernel_rfl) (Or.inl ⟨by rfl, ?hy5⟩) (HSE.out _ e6.out) (gone (by kernel_rfl)) ?rest5
          case hy5 => (intro W hSW; (try dsimp only at hSW); go_simp; (try with_reducible rfl))
          (try simp only [Act.put, List.setIfInBounds_toArray, List.set_cons_zero, List.set_cons_succ])
          refine wpF_take0 (i := 11) (v := ?v6) rfl (by kernel_rfl) (by kernel_rfl) (by kernel_rfl) (fun _ _ _ h => h) (by kernel_rfl) (Or.inl ⟨by rfl, ?hy6⟩) (HSE.out _ e6.out) (gone (by kernel_rfl)) ?rest6
          case hy6 => (intro W hSW; (try dsimp only at hSW); go_simp; (try with_reducible rfl))
          (try simp only [Act.put, List.setIfInBounds_toArray, List.set_cons_zero, List.set_cons_succ])
          refine wpF_done (by kernel_rfl) ?_ _
          refine NoPanic.normal ?_
          exact hK2.out _ _ _ _ _ _ _ _ _ _ _ _ _  (Lib.hid ⟨rT6.out.mono (fun b hb => hb.1), rI6.out, e6.out⟩)
        · go_simp
          obtain ⟨w7, hw⟩ : ∃ W, W = w3.alloc (.cells #[.int .i64 n] 3) := ⟨_, rfl⟩
          have hx : Ext w3 w7 := by rw [hw]; exact (Ext.refl _).alloc _
          have tb := heap_new w3 _ rfl (.cells #[.int .i64 n] 3)
          rw [← hw] at tb
          have e7 := Lib.hid (e3.out.trans hx)
          have z7 := Lib.hid (show w3.heap.size ≤ w7.heap.size ∧ w3.heap.size < w7.heap.size from ⟨hx.le, blk_lt tb⟩)
          have rT7 := Lib.hid (rT3.out.ext hx)
          (try unfold msgC at hw)
          rw [← hw]
          clear hw hx
          refine hK.out _ _ (HSE.out _ e7.out) (gone (by kernel_rfl)) ?_
          clear hK K
          (try simp only [Act.put, List.setIfInBounds_toArray, List.set_cons_zero, List.set_cons_succ])
          obtain ⟨hI, hh⟩ : ∃ b, b = w3.heap.size := ⟨_, rfl⟩
          rw [← hh] at tb ⊢
          have HhI := Lib.hid hh
          clear hh
          have tI7 := Lib.hid tb
          clear tb
          refine wpF_step (i := 6) (by kernel_rfl) rfl (fun K hK => ?_)
          go_simp
          refine (CloneI_calls w7 (· ≠ g) _ s.ids (hi.out.ext e7.out) HSZ.out.2.1).mono ?_
          rintro e w8 ⟨vD, rfl, ho, hx⟩
          have e8 := Lib.hid (e7.out.trans hx)
          have z8 := Lib.hid (show w7.heap.size ≤ w8.heap.size from hx.le)
          have tI8 := Lib.hid (blk_ext tI7.out hx)
          have rT8 := Lib.hid (rT7.out.ext hx)
          have qD := Lib.hid (show ∀ k, vD.ownBlock = some k → w7.heap.size ≤ k ∧ k < w8.heap.size from fun k hk => ⟨ho.from_ k hk, ho.lt k hk⟩)
          have oD8 := Lib.hid (show Ow kInt 3 w8 w7.heap.size (· ≠ g) vD s.ids from ho.mono (fun b hb => by have h1 := HGL.out; have hz0 := z0.out; have hz1 := z1.out; have hz2 := z2.out; have hz3 := z3.out; have hz7 := z7.out; have h2 : w7.heap.size ≤ b := hb; omega))
          obtain ⟨AD, nD, cD_, ev⟩ : ∃ A n c, vD = .slice A n c := by obtain ⟨A, c, e, _⟩ := _root_.id oD8.out.rs; exact ⟨_, _, _, e⟩
          subst ev
          clear ho hx
          (try go_wp2_with fail)
          refine hK.out _ _ (HSE.out _ e8.out) (gone (by kernel_rfl)) ?_
          clear hK K
          (try simp only [Act.put, List.setIfInBounds_toArray, List.set_cons_zero, List.set_cons_succ])
          refine wpF_step (i := 9) (by kernel_rfl) rfl (fun K hK => ?_)
          refine step_append_Rs kInt 61 rfl rfl (.tmp 58) (.tmp 60) 23 3 rfl tInts w7.heap.size _ _ s.ids [n] (· ≠ g) (fun _ => True) rfl rfl oD8.out (Rs.one_intb tI8.out trivial hn) (fun _ _ h => h) (fun b hb => by have hz0 := z0.out; have hz1 := z1.out; have hz2 := z2.out; have hz3 := z3.out; have hz7 := z7.out; have hz8 := z8.out; have hJ := HhI.out; have h1 := HGL.out; show b ≠ g; omega) HSZ.out.2.2.2 (by have hz0 := z0.out; have hz1 := z1.out; have hz2 := z2.out; have hz3 := z3.out; have hz7 := z7.out; have hz8 := z8.out; have hJ := HhI.out; have h1 := HGL.out; omega) ?_
          intro vI w9 ho hg _
          have e9 := Lib.hid (e8.out.grown hg (fun k hk => by have h8 := qD.out k hk; have hz0 := z0.out; have hz1 := z1.out; have hz2 := z2.out; have hz3 := z3.out; have hz7 := z7.out; have hz8 := z8.out; have hJ := HhI.out; have h1 := HGL.out; omega))
          have z9 := Lib.hid (show w8.heap.size ≤ w9.heap.size from hg.size)
          have rT9 := Lib.hid (rT8.out.grown hg (fun k hk hb => by have h8 := qD.out k hk; have h9 := hb.2; have hz0 := z0.out; have hz1 := z1.out; have hz2 := z2.out; have hz3 := z3.out; have hz7 := z7.out; have hz8 := z8.out; have hJ := HhI.out; have h1 := HGL.out; omega))
          have rI9 := Lib.hid (show Rs kInt w9 (· ≠ g) vI (s.ids ++ [n]) from ho.rs)
          obtain ⟨AI, nI, cI_, ev⟩ : ∃ A n c, vI = .slice A n c := by obtain ⟨A, c, e, _⟩ := _root_.id ho.rs; exact ⟨_, _, _, e⟩
          subst ev
          clear ho hg
          refine hK.out _ _ (HSE.out _ e9.out) (gone (by kernel_rfl)) ?_
          clear hK K
          (try simp only [Act.put, List.setIfInBounds_toArray, List.set_cons_zero, List.set_cons_succ])
          refine wpF_take0 (i := 10) (v := ?v7) rfl (by kernel_rfl) (by kernel_rfl) (by kernel_rfl) (fun _ _ _ h => h) (by kernel_rfl) (Or.inl ⟨by rfl, ?hy7⟩) (HSE.out _ e9.out) (gone (by kernel_rfl)) ?rest7
          case hy7 => (intro W hSW; (try dsimp only at hSW); go_simp; (try with_reducible rfl))
          (try simp only [Act.put, List.setIfInBounds_toArray, List.set_cons_zero, List.set_cons_succ])
          refine wpF_take0 (i := 11) (v := ?v8) rfl (by kernel_rfl) (by kernel_rfl) (by kernel_rfl) (fun _ _ _ h => h) (by kernel_rfl) (Or.inl ⟨by rfl, ?hy8⟩) (HSE.out _ e9.out) (gone (by kernel_rfl)) ?rest8
          case hy8 => (intro W hSW; (try dsimp only at hSW); go_simp; (try with_reducible rfl))
          (try simp only [Act.put, List.setIfInBounds_toArray, List.set_cons_zero, List.set_cons_succ])
          refine wpF_done (by kernel_rfl) ?_ _
          refine NoPanic.normal ?_
          exact hK2.out _ _ _ _ _ _ _ _ _ _ _ _ _  (Lib.hid ⟨rT9.out.mono (fun b hb => hb.1), rI9.out, e9.out⟩)
      · go_simp
        obtain ⟨w10, hw⟩ : ∃ W, W = w2.alloc (.cells #[.int .i64 n] 3) := ⟨_, rfl⟩
        have hx : Ext w2 w10 := by rw [hw]; exact (Ext.refl _).alloc _
        have tb := heap_new w2 _ rfl (.cells #[.int .i64 n] 3)
        rw [← hw] at tb
        have e10 := Lib.hid (e2.out.trans hx)
        have z10 := Lib.hid (show w2.heap.size ≤ w10.heap.size ∧ w2.heap.size < w10.heap.size from ⟨hx.le, blk_lt tb⟩)
        have oC10 := Lib.hid (oC2.out.ext hx)
        have rL10 := Lib.hid (rL2.out.ext hx)
        (try unfold msgC at hw)
        rw [← hw]
        clear hw hx
        refine hK.out _ _ (HSE.out _ e10.out) (gone (by kernel_rfl)) ?_
        clear hK K
        (try simp only [Act.put, List.setIfInBounds_toArray, List.set_cons_zero, List.set_cons_succ])
        obtain ⟨hI, hh⟩ : ∃ b, b = w2.heap.size := ⟨_, rfl⟩
        rw [← hh] at tb ⊢
        have HhI := Lib.hid hh
        clear hh
        have tI10 := Lib.hid tb
        clear tb
        refine wpF_step (i := 4) (by kernel_rfl) rfl (fun K hK => ?_)
        have hdist : ∀ b, (b = hL ∨ (b ≠ g ∧ b < w.heap.size)) → b ≠ g ∧ some b ≠ (.slice AC nC cC_ : Value).ownBlock := fun b hb => by
          have hz0 := z0.out; have hz1 := z1.out; have hz2 := z2.out; have hz10 := z10.out; have hH := HhL.out; have h1 := HGL.out
          refine ⟨by rcases hb with hb | hb; omega; exact hb.1, fun e => ?_⟩
          have h8 := qC.out b e.symm
          rcases hb with hb | hb <;> omega
        refine step_append_Rs kMsg 56 rfl rfl (.tmp 53) (.tmp 55) 28 26 rfl tMsgs w0.heap.size _ _ s.ms [m] (· ≠ g) _ rfl rfl oC10.out rL10.out (fun y cs hy => kMsg.mono hdist hy) (fun b hb => by have hz0 := z0.out; have hz1 := z1.out; have hz2 := z2.out; have hz10 := z10.out; have hH := HhL.out; have h1 := HGL.out; show b ≠ g; omega) HSZ.out.2.2.1 (by have hz0 := z0.out; have hz1 := z1.out; have hz2 := z2.out; have hz10 := z10.out; have hH := HhL.out; have h1 := HGL.out; omega) ?_
        intro vT w11 ho hg _
        have e11 := Lib.hid (e10.out.grown hg (fun k hk => by have h8 := qC.out k hk; have hz0 := z0.out; have hz1 := z1.out; have hz2 := z2.out; have hz10 := z10.out; have hH := HhL.out; have h1 := HGL.out; omega))
        have z11 := Lib.hid (show w10.heap.size ≤ w11.heap.size from hg.size)
        have tI11 := Lib.hid ((hg.block hI (blk_lt tI10.out) (fun e => by have h8 := qC.out hI e.symm; have hJ := HhI.out; have hz0 := z0.out; have hz1 := z1.out; have hz2 := z2.out; have hz10 := z10.out; have hH := HhL.out; have h1 := HGL.out; omega)).trans tI10.out)
        have rT11 := Lib.hid (show Rs kMsg w11 (fun b => b ≠ g ∧ b < w11.heap.size) vT (s.ms ++ [m]) from ho.rs.bound)
        obtain ⟨AT, nT, cT_, ev⟩ : ∃ A n c, vT = .slice A n c := by obtain ⟨A, c, e, _⟩ := _root_.id ho.rs; exact ⟨_, _, _, e⟩
        subst ev
        clear ho hg hdist
        refine hK.out _ _ (HSE.out _ e11.out) (gone (by kernel_rfl)) ?_
        clear hK K
        (try simp only [Act.put, List.setIfInBounds_toArray, List.set_cons_zero, List.set_cons_succ])
        refine wpF_step (i := 6) (by kernel_rfl) rfl (fun K hK => ?_)
        go_simp
        refine (CloneI_calls w11 (· ≠ g) _ s.ids (hi.out.ext e11.out) HSZ.out.2.1).mono ?_
        rintro e w12 ⟨vD, rfl, ho, hx⟩
        have e12 := Lib.hid (e11.out.trans hx)
        have z12 := Lib.hid (show w11.heap.size ≤ w12.heap.size from hx.le)
        have tI12 := Lib.hid (blk_ext tI11.out hx)
        have rT12 := Lib.hid (rT11.out.ext hx)
        have qD := Lib.hid (show ∀ k, vD.ownBlock = some k → w11.heap.size ≤ k ∧ k < w12.heap.size from fun k hk => ⟨ho.from_ k hk, ho.lt k hk⟩)
        have oD12 := Lib.hid (show Ow kInt 3 w12 w11.heap.size (· ≠ g) vD s.ids from ho.mono (fun b hb => by have h1 := HGL.out; have hz0 := z0.out; have hz1 := z1.out; have hz2 := z2.out; have hz10 := z10.out; have hz11 := z11.out; have h2 : w11.heap.size ≤ b := hb; omega))
        obtain ⟨AD, nD, cD_, ev⟩ : ∃ A n c, vD = .slice A n c := by obtain ⟨A, c, e, _⟩ := _root_.id oD12.out.rs; exact ⟨_, _, _, e⟩
        subst ev
        clear ho hx
        (try go_wp2_with fail)
        refine hK.out _ _ (HSE.out _ e12.out) (gone (by kernel_rfl)) ?_
        clear hK K
        (try simp only [Act.put, List.setIfInBounds_toArray, List.set_cons_zero, List.set_cons_succ])
        refine wpF_step (i := 9) (by kernel_rfl) rfl (fun K hK => ?_)
        refine step_append_Rs kInt 61 rfl rfl (.tmp 58) (.tmp 60) 23 3 rfl tInts w11.heap.size _ _ s.ids [n] (· ≠ g) (fun _ => True) rfl rfl oD12.out (Rs.one_intb tI12.out trivial hn) (fun _ _ h => h) (fun b hb => by have hz0 := z0.out; have hz1 := z1.out; have hz2 := z2.out; have hz10 := z10.out; have hz11 := z11.out; have hz12 := z12.out; have hJ := HhI.out; have h1 := HGL.out; show b ≠ g; omega) HSZ.out.2.2.2 (by have hz0 := z0.out; have hz1 := z1.out; have hz2 := z2.out; have hz10 := z10.out; have hz11 := z11.out; have hz12 := z12.out; have hJ := HhI.out; have h1 := HGL.out; omega) ?_
        intro vI w13 ho hg _
        have e13 := Lib.hid (e12.out.grown hg (fun k hk => by have h8 := qD.out k hk; have hz0 := z0.out; have hz1 := z1.out; have hz2 := z2.out; have hz10 := z10.out; have hz11 := z11.out; have hz12 := z12.out; have hJ := HhI.out; have h1 := HGL.out; omega))
        have z13 := Lib.hid (show w12.heap.size ≤ w13.heap.size from hg.size)
        have rT13 := Lib.hid (rT12.out.grown hg (fun k hk hb => by have h8 := qD.out k hk; have h9 := hb.2; have hz0 := z0.out; have hz1 := z1.out; have hz2 := z2.out; have hz10 := z10.out; have hz11 := z11.out; have hz12 := z12.out; have hJ := HhI.out; have h1 := HGL.out; omega))
        have rI13 := Lib.hid (show Rs kInt w13 (· ≠ g) vI (s.ids ++ [n]) from ho.rs)
        obtain ⟨AI, nI, cI_, ev⟩ : ∃ A n c, vI = .slice A n c := by obtain ⟨A, c, e, _⟩ := _root_.id ho.rs; exact ⟨_, _, _, e⟩
        subst ev
        clear ho hg
        refine hK.out _ _ (HSE.out _ e13.out) (gone (by kernel_rfl)) ?_
        clear hK K
        (try simp only [Act.put, List.setIfInBounds_toArray, List.set_cons_zero, List.set_cons_succ])
        refine wpF_take0 (i := 10) (v := ?v9) rfl (by kernel_rfl) (by kernel_rfl) (by kernel_rfl) (fun _ _ _ h => h) (by kernel_rfl) (Or.inl ⟨by rfl, ?hy9⟩) (HSE.out _ e13.out) (gone (by kernel_rfl)) ?rest9
        case hy9 => (intro W hSW; (try dsimp only at hSW); go_simp; (try with_reducible rfl))
        (try simp only [Act.put, List.setIfInBounds_toArray, List.set_cons_zero, List.set_cons_succ])
        refine wpF_take0 (i := 11) (v := ?v10) rfl (by kernel_rfl) (by kernel_rfl) (by kernel_rfl) (fun _ _ _ h => h) (by kernel_rfl) (Or.inl ⟨by rfl, ?hy10⟩) (HSE.out _ e13.out) (gone (by kernel_rfl)) ?rest10
        case hy10 => (intro W hSW; (try dsimp only at hSW); go_simp; (try with_reducible rfl))
        (try simp only [Act.put, List.setIfInBounds_toArray, List.set_cons_zero, List.set_cons_succ])
        refine wpF_done (by kernel_rfl) ?_ _
        refine NoPanic.normal ?_
        exact hK2.out _ _ _ _ _ _ _ _ _ _ _ _ _  (Lib.hid ⟨rT13.out.mono (fun b hb => hb.1), rI13.out, e13.out⟩)
    · go_simp
      obtain ⟨w14, hw⟩ : ∃ W, W = w1.alloc (.cells #[.int .i64 n] 3) := ⟨_, rfl⟩
      have hx : Ext w1 w14 := by rw [hw]; exact (Ext.refl _).alloc _
      have tb := heap_new w1 _ rfl (.cells #[.int .i64 n] 3)
      rw [← hw] at tb
      have e14 := Lib.hid (e1.out.trans hx)
      have z14 := Lib.hid (show w1.heap.size ≤ w14.heap.size ∧ w1.heap.size < w14.heap.size from ⟨hx.le, blk_lt tb⟩)
      have oC14 := Lib.hid (oC1.out.ext hx)
      (try unfold msgC at hw)
      rw [← hw]
      clear hw hx
      refine hK.out _ _ (HSE.out _ e14.out) (gone (by kernel_rfl)) ?_
      clear hK K
      (try simp only [Act.put, List.setIfInBounds_toArray, List.set_cons_zero, List.set_cons_succ])
      obtain ⟨hI, hh⟩ : ∃ b, b = w1.heap.size := ⟨_, rfl⟩
      rw [← hh] at tb ⊢
      have HhI := Lib.hid hh
      clear hh
      have tI14 := Lib.hid tb
      clear tb
      refine wpF_step (i := 3) (by kernel_rfl) rfl (fun K hK => ?_)
      go_simp
      obtain ⟨w15, hw⟩ : ∃ W, W = w14.alloc (.cells (msgC m (.slice Ae m.entries.length ce) (.slice Av m.voters.length cv) (.slice Ad m.data.length cd)) 26) := ⟨_, rfl⟩
      have hx : Ext w14 w15 := by rw [hw]; exact (Ext.refl _).alloc _
      have tb := heap_new w14 _ rfl (.cells (msgC m (.slice Ae m.entries.length ce) (.slice Av m.voters.length cv) (.slice Ad m.data.length cd)) 26)
      rw [← hw] at tb
      have e15 := Lib.hid (e14.out.trans hx)
      have z15 := Lib.hid (show w14.heap.size ≤ w15.heap.size ∧ w14.heap.size < w15.heap.size from ⟨hx.le, blk_lt tb⟩)
      have oC15 := Lib.hid (oC14.out.ext hx)
      have tI15 := Lib.hid (blk_ext tI14.out hx)
      (try unfold msgC at hw)
      rw [← hw]
      clear hw hx
      refine hK.out _ _ (HSE.out _ e15.out) (gone (by kernel_rfl)) ?_
      clear hK K
      (try simp only [Act.put, List.setIfInBounds_toArray, List.set_cons_zero, List.set_cons_succ])
      obtain ⟨hL, hh⟩ : ∃ b, b = w14.heap.size := ⟨_, rfl⟩
      rw [← hh] at tb ⊢
      have HhL := Lib.hid hh
      clear hh
      have rL15 := Lib.hid (show Rs kMsg w15 (fun b => b = hL ∨ (b ≠ g ∧ b < w.heap.size)) (.slice (some ⟨hL, 0, none⟩) 1 1) [m] from Rs.one_msg tb (.inl rfl) (((hm.out.bound).ext e15.out).mono (fun b hb => .inr hb)))
      clear tb
      refine wpF_step (i := 4) (by kernel_rfl) rfl (fun K hK => ?_)
      have hdist : ∀ b, (b = hL ∨ (b ≠ g ∧ b < w.heap.size)) → b ≠ g ∧ some b ≠ (.slice AC nC cC_ : Value).ownBlock := fun b hb => by
        have hz0 := z0.out; have hz1 := z1.out; have hz14 := z14.out; have hz15 := z15.out; have hH := HhL.out; have h1 := HGL.out
        refine ⟨by rcases hb with hb | hb; omega; exact hb.1, fun e => ?_⟩
        have h8 := qC.out b e.symm
        rcases hb with hb | hb <;> omega
      refine step_append_Rs kMsg 56 rfl rfl (.tmp 53) (.tmp 55) 28 26 rfl tMsgs w0.heap.size _ _ s.ms [m] (· ≠ g) _ rfl rfl oC15.out rL15.out (fun y cs hy => kMsg.mono hdist hy) (fun b hb => by have hz0 := z0.out; have hz1 := z1.out; have hz14 := z14.out; have hz15 := z15.out; have hH := HhL.out; have h1 := HGL.out; show b ≠ g; omega) HSZ.out.2.2.1 (by have hz0 := z0.out; have hz1 := z1.out; have hz14 := z14.out; have hz15 := z15.out; have hH := HhL.out; have h1 := HGL.out; omega) ?_
      intro vT w16 ho hg _
      have e16 := Lib.hid (e15.out.grown hg (fun k hk => by have h8 := qC.out k hk; have hz0 := z0.out; have hz1 := z1.out; have hz14 := z14.out; have hz15 := z15.out; have hH := HhL.out; have h1 := HGL.out; omega))
      have z16 := Lib.hid (show w15.heap.size ≤ w16.heap.size from hg.size)
      have tI16 := Lib.hid ((hg.block hI (blk_lt tI15.out) (fun e => by have h8 := qC.out hI e.symm; have hJ := HhI.out; have hz0 := z0.out; have hz1 := z1.out; have hz14 := z14.out; have hz15 := z15.out; have hH := HhL.out; have h1 := HGL.out; omega)).trans tI15.out)
      have rT16 := Lib.hid (show Rs kMsg w16 (fun b => b ≠ g ∧ b < w16.heap.size) vT (s.ms ++ [m]) from ho.rs.bound)
      obtain ⟨AT, nT, cT_, ev⟩ : ∃ A n c, vT = .slice A n c := by obtain ⟨A, c, e, _⟩ := _root_.id ho.rs; exact ⟨_, _, _, e⟩
      subst ev
      clear ho hg hdist
      refine hK.out _ _ (HSE.out _ e16.out) (gone (by kernel_rfl)) ?_
      clear hK K
      (try simp only [Act.put, List.setIfInBounds_toArray, List.set_cons_zero, List.set_cons_succ])
      refine wpF_step (i := 6) (by kernel_rfl) rfl (fun K hK => ?_)
      go_simp
      refine (CloneI_calls w16 (· ≠ g) _ s.ids (hi.out.ext e16.out) HSZ.out.2.1).mono ?_
      rintro e w17 ⟨vD, rfl, ho, hx⟩
      have e17 := Lib.hid (e16.out.trans hx)
      have z17 := Lib.hid (show w16.heap.size ≤ w17.heap.size from hx.le)
      have tI17 := Lib.hid (blk_ext tI16.out hx)
      have rT17 := Lib.hid (rT16.out.ext hx)
      have qD := Lib.hid (show ∀ k, vD.ownBlock = some k → w16.heap.size ≤ k ∧ k < w17.heap.size from fun k hk => ⟨ho.from_ k hk, ho.lt k hk⟩)
      have oD17 := Lib.hid (show Ow kInt 3 w17 w16.heap.size (· ≠ g) vD s.ids from ho.mono (fun b hb => by have h1 := HGL.out; have hz0 := z0.out; have hz1 := z1.out; have hz14 := z14.out; have hz15 := z15.out; have hz16 := z16.out; have h2 : w16.heap.size ≤ b := hb; omega))
      obtain ⟨AD, nD, cD_, ev⟩ : ∃ A n c, vD = .slice A n c := by obtain ⟨A, c, e, _⟩ := _root_.id oD17.out.rs; exact ⟨_, _, _, e⟩
      subst ev
      clear ho hx
      (try go_wp2_with fail)
      refine hK.out _ _ (HSE.out _ e17.out) (gone (by kernel_rfl)) ?_
      clear hK K
      (try simp only [Act.put, List.setIfInBounds_toArray, List.set_cons_zero, List.set_cons_succ])
      refine wpF_step (i := 9) (by kernel_rfl) rfl (fun K hK => ?_)
      refine step_append_Rs kInt 61 rfl rfl (.tmp 58) (.tmp 60) 23 3 rfl tInts w16.heap.size _ _ s.ids [n] (· ≠ g) (fun _ => True) rfl rfl oD17.out (Rs.one_intb tI17.out trivial hn) (fun _ _ h => h) (fun b hb => by have hz0 := z0.out; have hz1 := z1.out; have hz14 := z14.out; have hz15 := z15.out; have hz16 := z16.out; have hz17 := z17.out; have hJ := HhI.out; have h1 := HGL.out; show b ≠ g; omega) HSZ.out.2.2.2 (by have hz0 := z0.out; have hz1 := z1.out; have hz14 := z14.out; have hz15 := z15.out; have hz16 := z16.out; have hz17 := z17.out; have hJ := HhI.out; have h1 := HGL.out; omega) ?_
      intro vI w18 ho hg _
      have e18 := Lib.hid (e17.out.grown hg (fun k hk => by have h8 := qD.out k hk; have hz0 := z0.out; have hz1 := z1.out; have hz14 := z14.out; have hz15 := z15.out; have hz16 := z16.out; have hz17 := z17.out; have hJ := HhI.out; have h1 := HGL.out; omega))
      have z18 := Lib.hid (show w17.heap.size ≤ w18.heap.size from hg.size)
      have rT18 := Lib.hid (rT17.out.grown hg (fun k hk hb => by have h8 := qD.out k hk; have h9 := hb.2; have hz0 := z0.out; have hz1 := z1.out; have hz14 := z14.out; have hz15 := z15.out; have hz16 := z16.out; have hz17 := z17.out; have hJ := HhI.out; have h1 := HGL.out; omega))
      have rI18 := Lib.hid (show Rs kInt w18 (· ≠ g) vI (s.ids ++ [n]) from ho.rs)
      obtain ⟨AI, nI, cI_, ev⟩ : ∃ A n c, vI = .slice A n c := by obtain ⟨A, c, e, _⟩ := _root_.id ho.rs; exact ⟨_, _, _, e⟩
      subst ev
      clear ho hg
      refine hK.out _ _ (HSE.out _ e18.out) (gone (by kernel_rfl)) ?_
      clear hK K
      (try simp only [Act.put, List.setIfInBounds_toArray, List.set_cons_zero, List.set_cons_succ])
      refine wpF_take0 (i := 10) (v := ?v11) rfl (by kernel_rfl) (by kernel_rfl) (by kernel_rfl) (fun _ _ _ h => h) (by kernel_rfl) (Or.inl ⟨by rfl, ?hy11⟩) (HSE.out _ e18.out) (gone (by kernel_rfl)) ?rest11
      case hy11 => (intro W hSW; (try dsimp only at hSW); go_simp; (try with_reducible rfl))
      (try simp only [Act.put, List.setIfInBounds_toArray, List.set_cons_zero, List.set_cons_succ])
      refine wpF_take0 (i := 11) (v := ?v12) rfl (by kernel_rfl) (by kernel_rfl) (by kernel_rfl) (fun _ _ _ h => h) (by kernel_rfl) (Or.inl ⟨by rfl, ?hy12⟩) (HSE.out _ e18.out) (gone (by kernel_rfl)) ?rest12
      case hy12 => (intro W hSW; (try dsimp only at hSW); go_simp; (try with_reducible rfl))
      (try simp only [Act.put, List.setIfInBounds_toArray, List.set_cons_zero, List.set_cons_succ])
      refine wpF_done (by kernel_rfl) ?_ _
      refine NoPanic.normal ?_
      exact hK2.out _ _ _ _ _ _ _ _ _ _ _ _ _  (Lib.hid ⟨rT18.out.mono (fun b hb => hb.1), rI18.out, e18.out⟩)
  · go_simp
    obtain ⟨w19, hw⟩ : ∃ W, W = w0.alloc (.cells (msgC m (.slice Ae m.entries.length ce) (.slice Av m.voters.length cv) (.slice Ad m.data.length cd)) 26) := ⟨_, rfl⟩
    have hx : Ext w0 w19 := by rw [hw]; exact (Ext.refl _).alloc _
    have tb := heap_new w0 _ rfl (.cells (msgC m (.slice Ae m.entries.length ce) (.slice Av m.voters.length cv) (.slice Ad m.data.length cd)) 26)
    rw [← hw] at tb
    have e19 := Lib.hid (e0.out.trans hx)
    have z19 := Lib.hid (show w0.heap.size ≤ w19.heap.size ∧ w0.heap.size < w19.heap.size from ⟨hx.le, blk_lt tb⟩)
    (try unfold msgC at hw)
    rw [← hw]
    clear hw hx
    refine hK.out _ _ (HSE.out _ e19.out) (gone (by kernel_rfl)) ?_
    clear hK K
    (try simp only [Act.put, List.setIfInBounds_toArray, List.set_cons_zero, List.set_cons_succ])
    obtain ⟨hL, hh⟩ : ∃ b, b = w0.heap.size := ⟨_, rfl⟩
    rw [← hh] at tb ⊢
    have HhL := Lib.hid hh
    clear hh
    have rL19 := Lib.hid (show Rs kMsg w19 (fun b => b = hL ∨ (b ≠ g ∧ b < w.heap.size)) (.slice (some ⟨hL, 0, none⟩) 1 1) [m] from Rs.one_msg tb (.inl rfl) (((hm.out.bound).ext e19.out).mono (fun b hb => .inr hb)))
    clear tb
    refine wpF_step2 (i := 1) (j := 8) (by kernel_rfl) rfl rfl (fun K hK => ?_) (fun K hK => ?_)
    · go_simp
      refine (CloneMsg_calls w19 (· ≠ g) _ s.ms (ht.out.ext e19.out) HSZ.out.1).mono ?_
      rintro e w20 ⟨vC, rfl, ho, hx⟩
      have e20 := Lib.hid (e19.out.trans hx)
      have z20 := Lib.hid (show w19.heap.size ≤ w20.heap.size from hx.le)
      have rL20 := Lib.hid (rL19.out.ext hx)
      have qC := Lib.hid (show ∀ k, vC.ownBlock = some k → w19.heap.size ≤ k ∧ k < w20.heap.size from fun k hk => ⟨ho.from_ k hk, ho.lt k hk⟩)
      have oC20 := Lib.hid (show Ow kMsg 26 w20 w19.heap.size (· ≠ g) vC s.ms from ho.mono (fun b hb => by have h1 := HGL.out; have hz0 := z0.out; have hz19 := z19.out; rcases hb with hb | hb; omega; exact hb))
      obtain ⟨AC, nC, cC_, ev⟩ : ∃ A n c, vC = .slice A n c := by obtain ⟨A, c, e, _⟩ := _root_.id oC20.out.rs; exact ⟨_, _, _, e⟩
      subst ev
      clear ho hx
      (try go_wp2_with fail)
      refine hK.out _ _ (HSE.out _ e20.out) (gone (by kernel_rfl)) ?_
      clear hK K
      (try simp only [Act.put, List.setIfInBounds_toArray, List.set_cons_zero, List.set_cons_succ])
      refine wpF_step2 (i := 4) (j := 8) (by kernel_rfl) rfl rfl (fun K hK => ?_) (fun K hK => ?_)
      · have hdist : ∀ b, (b = hL ∨ (b ≠ g ∧ b < w.heap.size)) → b ≠ g ∧ some b ≠ (.slice AC nC cC_ : Value).ownBlock := fun b hb => by
          have hz0 := z0.out; have hz19 := z19.out; have hz20 := z20.out; have hH := HhL.out; have h1 := HGL.out
          refine ⟨by rcases hb with hb | hb; omega; exact hb.1, fun e => ?_⟩
          have h8 := qC.out b e.symm
          rcases hb with hb | hb <;> omega
        refine step_append_Rs kMsg 56 rfl rfl (.tmp 53) (.tmp 55) 28 26 rfl tMsgs w19.heap.size _ _ s.ms [m] (· ≠ g) _ rfl rfl oC20.out rL20.out (fun y cs hy => kMsg.mono hdist hy) (fun b hb => by have hz0 := z0.out; have hz19 := z19.out; have hz20 := z20.out; have hH := HhL.out; have h1 := HGL.out; show b ≠ g; omega) HSZ.out.2.2.1 (by have hz0 := z0.out; have hz19 := z19.out; have hz20 := z20.out; have hH := HhL.out; have h1 := HGL.out; omega) ?_
        intro vT w21 ho hg _
        have e21 := Lib.hid (e20.out.grown hg (fun k hk => by have h8 := qC.out k hk; have hz0 := z0.out; have hz19 := z19.out; have hz20 := z20.out; have hH := HhL.out; have h1 := HGL.out; omega))
        have z21 := Lib.hid (show w20.heap.size ≤ w21.heap.size from hg.size)
        have rT21 := Lib.hid (show Rs kMsg w21 (fun b => b ≠ g ∧ b < w21.heap.size) vT (s.ms ++ [m]) from ho.rs.bound)
        obtain ⟨AT, nT, cT_, ev⟩ : ∃ A n c, vT = .slice A n c := by obtain ⟨A, c, e, _⟩ := _root_.id ho.rs; exact ⟨_, _, _, e⟩
        subst ev
        clear ho hg hdist
        refine hK.out _ _ (HSE.out _ e21.out) (gone (by kernel_rfl)) ?_
        clear hK K
        (try simp only [Act.put, List.setIfInBounds_toArray, List.set_cons_zero, List.set_cons_succ])
        refine wpF_step2 (i := 6) (j := 8) (by kernel_rfl) rfl rfl (fun K hK => ?_) (fun K hK => ?_)
        · go_simp
          refine (CloneI_calls w21 (· ≠ g) _ s.ids (hi.out.ext e21.out) HSZ.out.2.1).mono ?_
          rintro e w22 ⟨vD, rfl, ho, hx⟩
          have e22 := Lib.hid (e21.out.trans hx)
          have z22 := Lib.hid (show w21.heap.size ≤ w22.heap.size from hx.le)
          have rT22 := Lib.hid (rT21.out.ext hx)
          have qD := Lib.hid (show ∀ k, vD.ownBlock = some k → w21.heap.size ≤ k ∧ k < w22.heap.size from fun k hk => ⟨ho.from_ k hk, ho.lt k hk⟩)
          have oD22 := Lib.hid (show Ow kInt 3 w22 w21.heap.size (· ≠ g) vD s.ids from ho.mono (fun b hb => by have h1 := HGL.out; have hz0 := z0.out; have hz19 := z19.out; have hz20 := z20.out; have hz21 := z21.out; have h2 : w21.heap.size ≤ b := hb; omega))
          obtain ⟨AD, nD, cD_, ev⟩ : ∃ A n c, vD = .slice A n c := by obtain ⟨A, c, e, _⟩ := _root_.id oD22.out.rs; exact ⟨_, _, _, e⟩
          subst ev
          clear ho hx
          (try go_wp2_with fail)
          refine hK.out _ _ (HSE.out _ e22.out) (gone (by kernel_rfl)) ?_
          clear hK K
          (try simp only [Act.put, List.setIfInBounds_toArray, List.set_cons_zero, List.set_cons_succ])
          refine wpF_step (i := 8) (by kernel_rfl) rfl (fun K hK => ?_)
          go_simp
          obtain ⟨w23, hw⟩ : ∃ W, W = w22.alloc (.cells #[.int .i64 n] 3) := ⟨_, rfl⟩
          have hx : Ext w22 w23 := by rw [hw]; exact (Ext.refl _).alloc _
          have tb := heap_new w22 _ rfl (.cells #[.int .i64 n] 3)
          rw [← hw] at tb
          have e23 := Lib.hid (e22.out.trans hx)
          have z23 := Lib.hid (show w22.heap.size ≤ w23.heap.size ∧ w22.heap.size < w23.heap.size from ⟨hx.le, blk_lt tb⟩)
          have rT23 := Lib.hid (rT22.out.ext hx)
          have oD23 := Lib.hid (oD22.out.ext hx)
          (try unfold msgC at hw)
          rw [← hw]
          clear hw hx
          refine hK.out _ _ (HSE.out _ e23.out) (gone (by kernel_rfl)) ?_
          clear hK K
          (try simp only [Act.put, List.setIfInBounds_toArray, List.set_cons_zero, List.set_cons_succ])
          obtain ⟨hI, hh⟩ : ∃ b, b = w22.heap.size := ⟨_, rfl⟩
          rw [← hh] at tb ⊢
          have HhI := Lib.hid hh
          clear hh
          have tI23 := Lib.hid tb
          clear tb
          refine wpF_step (i := 9) (by kernel_rfl) rfl (fun K hK => ?_)
          refine step_append_Rs kInt 61 rfl rfl (.tmp 58) (.tmp 60) 23 3 rfl tInts w21.heap.size _ _ s.ids [n] (· ≠ g) (fun _ => True) rfl rfl oD23.out (Rs.one_intb tI23.out trivial hn) (fun _ _ h => h) (fun b hb => by have hz0 := z0.out; have hz19 := z19.out; have hz20 := z20.out; have hz21 := z21.out; have hz22 := z22.out; have hz23 := z23.out; have hJ := HhI.out; have h1 := HGL.out; show b ≠ g; omega) HSZ.out.2.2.2 (by have hz0 := z0.out; have hz19 := z19.out; have hz20 := z20.out; have hz21 := z21.out; have hz22 := z22.out; have hz23 := z23.out; have hJ := HhI.out; have h1 := HGL.out; omega) ?_
          intro vI w24 ho hg _
          have e24 := Lib.hid (e23.out.grown hg (fun k hk => by have h8 := qD.out k hk; have hz0 := z0.out; have hz19 := z19.out; have hz20 := z20.out; have hz21 := z21.out; have hz22 := z22.out; have hz23 := z23.out; have hJ := HhI.out; have h1 := HGL.out; omega))
          have z24 := Lib.hid (show w23.heap.size ≤ w24.heap.size from hg.size)
          have rT24 := Lib.hid (rT23.out.grown hg (fun k hk hb => by have h8 := qD.out k hk; have h9 := hb.2; have hz0 := z0.out; have hz19 := z19.out; have hz20 := z20.out; have hz21 := z21.out; have hz22 := z22.out; have hz23 := z23.out; have hJ := HhI.out; have h1 := HGL.out; omega))
          have rI24 := Lib.hid (show Rs kInt w24 (· ≠ g) vI (s.ids ++ [n]) from ho.rs)
          obtain ⟨AI, nI, cI_, ev⟩ : ∃ A n c, vI = .slice A n c := by obtain ⟨A, c, e, _⟩ := _root_.id ho.rs; exact ⟨_, _, _, e⟩
          subst ev
          clear ho hg
          refine hK.out _ _ (HSE.out _ e24.out) (gone (by kernel_rfl)) ?_
          clear hK K
          (try simp only [Act.put, List.setIfInBounds_toArray, List.set_cons_zero, List.set_cons_succ])
          refine wpF_take0 (i := 10) (v := ?v13) rfl (by kernel_rfl) (by kernel_rfl) (by kernel_rfl) (fun _ _ _ h => h) (by kernel_rfl) (Or.inl ⟨by rfl, ?hy13⟩) (HSE.out _ e24.out) (gone (by kernel_rfl)) ?rest13
          case hy13 => (intro W hSW; (try dsimp only at hSW); go_simp; (try with_reducible rfl))
          (try simp only [Act.put, List.setIfInBounds_toArray, List.set_cons_zero, List.set_cons_succ])
          refine wpF_take0 (i := 11) (v := ?v14) rfl (by kernel_rfl) (by kernel_rfl) (by kernel_rfl) (fun _ _ _ h => h) (by kernel_rfl) (Or.inl ⟨by rfl, ?hy14⟩) (HSE.out _ e24.out) (gone (by kernel_rfl)) ?rest14
          case hy14 => (intro W hSW; (try dsimp only at hSW); go_simp; (try with_reducible rfl))
          (try simp only [Act.put, List.setIfInBounds_toArray, List.set_cons_zero, List.set_cons_succ])
          refine wpF_done (by kernel_rfl) ?_ _
          refine NoPanic.normal ?_
          exact hK2.out _ _ _ _ _ _ _ _ _ _ _ _ _  (Lib.hid ⟨rT24.out.mono (fun b hb => hb.1), rI24.out, e24.out⟩)
        · go_simp
          obtain ⟨w25, hw⟩ : ∃ W, W = w21.alloc (.cells #[.int .i64 n] 3) := ⟨_, rfl⟩
          have hx : Ext w21 w25 := by rw [hw]; exact (Ext.refl _).alloc _
          have tb := heap_new w21 _ rfl (.cells #[.int .i64 n] 3)
          rw [← hw] at tb
          have e25 := Lib.hid (e21.out.trans hx)
          have z25 := Lib.hid (show w21.heap.size ≤ w25.heap.size ∧ w21.heap.size < w25.heap.size from ⟨hx.le, blk_lt tb⟩)
          have rT25 := Lib.hid (rT21.out.ext hx)
          (try unfold msgC at hw)
          rw [← hw]
          clear hw hx
          refine hK.out _ _ (HSE.out _ e25.out) (gone (by kernel_rfl)) ?_
          clear hK K
          (try simp only [Act.put, List.setIfInBounds_toArray, List.set_cons_zero, List.set_cons_succ])
          obtain ⟨hI, hh⟩ : ∃ b, b = w21.heap.size := ⟨_, rfl⟩
          rw [← hh] at tb ⊢
          have HhI := Lib.hid hh
          clear hh
          have tI25 := Lib.hid tb
          clear tb
          refine wpF_step (i := 6) (by kernel_rfl) rfl (fun K hK => ?_)
          go_simp
          refine (CloneI_calls w25 (· ≠ g) _ s.ids (hi.out.ext e25.out) HSZ.out.2.1).mono ?_
          rintro e w26 ⟨vD, rfl, ho, hx⟩
          have e26 := Lib.hid (e25.out.trans hx)
          have z26 := Lib.hid (show w25.heap.size ≤ w26.heap.size from hx.le)
          have tI26 := Lib.hid (blk_ext tI25.out hx)
          have rT26 := Lib.hid (rT25.out.ext hx)
          have qD := Lib.hid (show ∀ k, vD.ownBlock = some k → w25.heap.size ≤ k ∧ k < w26.heap.size from fun k hk => ⟨ho.from_ k hk, ho.lt k hk⟩)
          have oD26 := Lib.hid (show Ow kInt 3 w26 w25.heap.size (· ≠ g) vD s.ids from ho.mono (fun b hb => by have h1 := HGL.out; have hz0 := z0.out; have hz19 := z19.out; have hz20 := z20.out; have hz21 := z21.out; have hz25 := z25.out; have h2 : w25.heap.size ≤ b := hb; omega))
          obtain ⟨AD, nD, cD_, ev⟩ : ∃ A n c, vD = .slice A n c := by obtain ⟨A, c, e, _⟩ := _root_.id oD26.out.rs; exact ⟨_, _, _, e⟩
          subst ev
          clear ho hx
          (try go_wp2_with fail)
          refine hK.out _ _ (HSE.out _ e26.out) (gone (by kernel_rfl)) ?_
          clear hK K
          (try simp only [Act.put, List.setIfInBounds_toArray, List.set_cons_zero, List.set_cons_succ])
          refine wpF_step (i := 9) (by kernel_rfl) rfl (fun K hK => ?_)
          refine step_append_Rs kInt 61 rfl rfl (.tmp 58) (.tmp 60) 23 3 rfl tInts w25.heap.size _ _ s.ids [n] (· ≠ g) (fun _ => True) rfl rfl oD26.out (Rs.one_intb tI26.out trivial hn) (fun _ _ h => h) (fun b hb => by have hz0 := z0.out; have hz19 := z19.out; have hz20 := z20.out; have hz21 := z21.out; have hz25 := z25.out; have hz26 := z26.out; have hJ := HhI.out; have h1 := HGL.out; show b ≠ g; omega) HSZ.out.2.2.2 (by have hz0 := z0.out; have hz19 := z19.out; have hz20 := z20.out; have hz21 := z21.out; have hz25 := z25.out; have hz26 := z26.out; have hJ := HhI.out; have h1 := HGL.out; omega) ?_
          intro vI w27 ho hg _
          have e27 := Lib.hid (e26.out.grown hg (fun k hk => by have h8 := qD.out k hk; have hz0 := z0.out; have hz19 := z19.out; have hz20 := z20.out; have hz21 := z21.out; have hz25 := z25.out; have hz26 := z26.out; have hJ := HhI.out; have h1 := HGL.out; omega))
          have z27 := Lib.hid (show w26.heap.size ≤ w27.heap.size from hg.size)
          have rT27 := Lib.hid (rT26.out.grown hg (fun k hk hb => by have h8 := qD.out k hk; have h9 := hb.2; have hz0 := z0.out; have hz19 := z19.out; have hz20 := z20.out; have hz21 := z21.out; have hz25 := z25.out; have hz26 := z26.out; have hJ := HhI.out; have h1 := HGL.out; omega))
          have rI27 := Lib.hid (show Rs kInt w27 (· ≠ g) vI (s.ids ++ [n]) from ho.rs)
          obtain ⟨AI, nI, cI_, ev⟩ : ∃ A n c, vI = .slice A n c := by obtain ⟨A, c, e, _⟩ := _root_.id ho.rs; exact ⟨_, _, _, e⟩
          subst ev
          clear ho hg
          refine hK.out _ _ (HSE.out _ e27.out) (gone (by kernel_rfl)) ?_
          clear hK K
          (try simp only [Act.put, List.setIfInBounds_toArray, List.set_cons_zero, List.set_cons_succ])
          refine wpF_take0 (i := 10) (v := ?v15) rfl (by kernel_rfl) (by kernel_rfl) (by kernel_rfl) (fun _ _ _ h => h) (by kernel_rfl) (Or.inl ⟨by rfl, ?hy15⟩) (HSE.out _ e27.out) (gone (by kernel_rfl)) ?rest15
          case hy15 => (intro W hSW; (try dsimp only at hSW); go_simp; (try with_reducible rfl))
          (try simp only [Act.put, List.setIfInBounds_toArray, List.set_cons_zero, List.set_cons_succ])
          refine wpF_take0 (i := 11) (v := ?v16) rfl (by kernel_rfl) (by kernel_rfl) (by kernel_rfl) (fun _ _ _ h => h) (by kernel_rfl) (Or.inl ⟨by rfl, ?hy16⟩) (HSE.out _ e27.out) (gone (by kernel_rfl)) ?rest16
          case hy16 => (intro W hSW; (try dsimp only at hSW); go_simp; (try with_reducible rfl))
          (try simp only [Act.put, List.setIfInBounds_toArray, List.set_cons_zero, List.set_cons_succ])
          refine wpF_done (by kernel_rfl) ?_ _
          refine NoPanic.normal ?_
          exact hK2.out _ _ _ _ _ _ _ _ _ _ _ _ _  (Lib.hid ⟨rT27.out.mono (fun b hb => hb.1), rI27.out, e27.out⟩)
      · go_simp
        obtain ⟨w28, hw⟩ : ∃ W, W = w20.alloc (.cells #[.int .i64 n] 3) := ⟨_, rfl⟩
        have hx : Ext w20 w28 := by rw [hw]; exact (Ext.refl _).alloc _
        have tb := heap_new w20 _ rfl (.cells #[.int .i64 n] 3)
        rw [← hw] at tb
        have e28 := Lib.hid (e20.out.trans hx)
        have z28 := Lib.hid (show w20.heap.size ≤ w28.heap.size ∧ w20.heap.size < w28.heap.size from ⟨hx.le, blk_lt tb⟩)
        have oC28 := Lib.hid (oC20.out.ext hx)
        have rL28 := Lib.hid (rL20.out.ext hx)
        (try unfold msgC at hw)
        rw [← hw]
        clear hw hx
        refine hK.out _ _ (HSE.out _ e28.out) (gone (by kernel_rfl)) ?_
        clear hK K
        (try simp only [Act.put, List.setIfInBounds_toArray, List.set_cons_zero, List.set_cons_succ])
        obtain ⟨hI, hh⟩ : ∃ b, b = w20.heap.size := ⟨_, rfl⟩
        rw [← hh] at tb ⊢
        have HhI := Lib.hid hh
        clear hh
        have tI28 := Lib.hid tb
        clear tb
        refine wpF_step (i := 4) (by kernel_rfl) rfl (fun K hK => ?_)
        have hdist : ∀ b, (b = hL ∨ (b ≠ g ∧ b < w.heap.size)) → b ≠ g ∧ some b ≠ (.slice AC nC cC_ : Value).ownBlock := fun b hb => by
          have hz0 := z0.out; have hz19 := z19.out; have hz20 := z20.out; have hz28 := z28.out; have hH := HhL.out; have h1 := HGL.out
          refine ⟨by rcases hb with hb | hb; omega; exact hb.1, fun e => ?_⟩
          have h8 := qC.out b e.symm
          rcases hb with hb | hb <;> omega
        refine step_append_Rs kMsg 56 rfl rfl (.tmp 53) (.tmp 55) 28 26 rfl tMsgs w19.heap.size _ _ s.ms [m] (· ≠ g) _ rfl rfl oC28.out rL28.out (fun y cs hy => kMsg.mono hdist hy) (fun b hb => by have hz0 := z0.out; have hz19 := z19.out; have hz20 := z20.out; have hz28 := z28.out; have hH := HhL.out; have h1 := HGL.out; show b ≠ g; omega) HSZ.out.2.2.1 (by have hz0 := z0.out; have hz19 := z19.out; have hz20 := z20.out; have hz28 := z28.out; have hH := HhL.out; have h1 := HGL.out; omega) ?_
        intro vT w29 ho hg _
        have e29 := Lib.hid (e28.out.grown hg (fun k hk => by have h8 := qC.out k hk; have hz0 := z0.out; have hz19 := z19.out; have hz20 := z20.out; have hz28 := z28.out; have hH := HhL.out; have h1 := HGL.out; omega))
        have z29 := Lib.hid (show w28.heap.size ≤ w29.heap.size from hg.size)
        have tI29 := Lib.hid ((hg.block hI (blk_lt tI28.out) (fun e => by have h8 := qC.out hI e.symm; have hJ := HhI.out; have hz0 := z0.out; have hz19 := z19.out; have hz20 := z20.out; have hz28 := z28.out; have hH := HhL.out; have h1 := HGL.out; omega)).trans tI28.out)
        have rT29 := Lib.hid (show Rs kMsg w29 (fun b => b ≠ g ∧ b < w29.heap.size) vT (s.ms ++ [m]) from ho.rs.bound)
        obtain ⟨AT, nT, cT_, ev⟩ : ∃ A n c, vT = .slice A n c := by obtain ⟨A, c, e, _⟩ := _root_.id ho.rs; exact ⟨_, _, _, e⟩
        subst ev
        clear ho hg hdist
        refine hK.out _ _ (HSE.out _ e29.out) (gone (by kernel_rfl)) ?_
        clear hK K
        (try simp only [Act.put, List.setIfInBounds_toArray, List.set_cons_zero, List.set_cons_succ])
        refine wpF_step (i := 6) (by kernel_rfl) rfl (fun K hK => ?_)
        go_simp
        refine (CloneI_calls w29 (· ≠ g) _ s.ids (hi.out.ext e29.out) HSZ.out.2.1).mono ?_
        rintro e w30 ⟨vD, rfl, ho, hx⟩
        have e30 := Lib.hid (e29.out.trans hx)
        have z30 := Lib.hid (show w29.heap.size ≤ w30.heap.size from hx.le)
        have tI30 := Lib.hid (blk_ext tI29.out hx)
        have rT30 := Lib.hid (rT29.out.ext hx)
        have qD := Lib.hid (show ∀ k, vD.ownBlock = some k → w29.heap.size ≤ k ∧ k < w30.heap.size from fun k hk => ⟨ho.from_ k hk, ho.lt k hk⟩)
        have oD30 := Lib.hid (show Ow kInt 3 w30 w29.heap.size (· ≠ g) vD s.ids from ho.mono (fun b hb => by have h1 := HGL.out; have hz0 := z0.out; have hz19 := z19.out; have hz20 := z20.out; have hz28 := z28.out; have hz29 := z29.out; have h2 : w29.heap.size ≤ b := hb; omega))
        obtain ⟨AD, nD, cD_, ev⟩ : ∃ A n c, vD = .slice A n c := by obtain ⟨A, c, e, _⟩ := _root_.id oD30.out.rs; exact ⟨_, _, _, e⟩
        subst ev
        clear ho hx
        (try go_wp2_with fail)
        refine hK.out _ _ (HSE.out _ e30.out) (gone (by kernel_rfl)) ?_
        clear hK K
        (try simp only [Act.put, List.setIfInBounds_toArray, List.set_cons_zero, List.set_cons_succ])
        refine wpF_step (i := 9) (by kernel_rfl) rfl (fun K hK => ?_)
        refine step_append_Rs kInt 61 rfl rfl (.tmp 58) (.tmp 60) 23 3 rfl tInts w29.heap.size _ _ s.ids [n] (· ≠ g) (fun _ => True) rfl rfl oD30.out (Rs.one_intb tI30.out trivial hn) (fun _ _ h => h) (fun b hb => by have hz0 := z0.out; have hz19 := z19.out; have hz20 := z20.out; have hz28 := z28.out; have hz29 := z29.out; have hz30 := z30.out; have hJ := HhI.out; have h1 := HGL.out; show b ≠ g; omega) HSZ.out.2.2.2 (by have hz0 := z0.out; have hz19 := z19.out; have hz20 := z20.out; have hz28 := z28.out; have hz29 := z29.out; have hz30 := z30.out; have hJ := HhI.out; have h1 := HGL.out; omega) ?_
        intro vI w31 ho hg _
        have e31 := Lib.hid (e30.out.grown hg (fun k hk => by have h8 := qD.out k hk; have hz0 := z0.out; have hz19 := z19.out; have hz20 := z20.out; have hz28 := z28.out; have hz29 := z29.out; have hz30 := z30.out; have hJ := HhI.out; have h1 := HGL.out; omega))
        have z31 := Lib.hid (show w30.heap.size ≤ w31.heap.size from hg.size)
        have rT31 := Lib.hid (rT30.out.grown hg (fun k hk hb => by have h8 := qD.out k hk; have h9 := hb.2; have hz0 := z0.out; have hz19 := z19.out; have hz20 := z20.out; have hz28 := z28.out; have hz29 := z29.out; have hz30 := z30.out; have hJ := HhI.out; have h1 := HGL.out; omega))
        have rI31 := Lib.hid (show Rs kInt w31 (· ≠ g) vI (s.ids ++ [n]) from ho.rs)
        obtain ⟨AI, nI, cI_, ev⟩ : ∃ A n c, vI = .slice A n c := by obtain ⟨A, c, e, _⟩ := _root_.id ho.rs; exact ⟨_, _, _, e⟩
        subst ev
        clear ho hg
        refine hK.out _ _ (HSE.out _ e31.out) (gone (by kernel_rfl)) ?_
        clear hK K
        (try simp only [Act.put, List.setIfInBounds_toArray, List.set_cons_zero, List.set_cons_succ])
        refine wpF_take0 (i := 10) (v := ?v17) rfl (by kernel_rfl) (by kernel_rfl) (by kernel_rfl) (fun _ _ _ h => h) (by kernel_rfl) (Or.inl ⟨by rfl, ?hy17⟩) (HSE.out _ e31.out) (gone (by kernel_rfl)) ?rest17
        case hy17 => (intro W hSW; (try dsimp only at hSW); go_simp; (try with_reducible rfl))
        (try simp only [Act.put, List.setIfInBounds_toArray, List.set_cons_zero, List.set_cons_succ])
        refine wpF_take0 (i := 11) (v := ?v18) rfl (by kernel_rfl) (by kernel_rfl) (by kernel_rfl) (fun _ _ _ h => h) (by kernel_rfl) (Or.inl ⟨by rfl, ?hy18⟩) (HSE.out _ e31.out) (gone (by kernel_rfl)) ?rest18
        case hy18 => (intro W hSW; (try dsimp only at hSW); go_simp; (try with_reducible rfl))
        (try simp only [Act.put, List.setIfInBounds_toArray, List.set_cons_zero, List.set_cons_succ])
        refine wpF_done (by kernel_rfl) ?_ _
        refine NoPanic.normal ?_
        exact hK2.out _ _ _ _ _ _ _ _ _ _ _ _ _  (Lib.hid ⟨rT31.out.mono (fun b hb => hb.1), rI31.out, e31.out⟩)
    · go_simp
      obtain ⟨w32, hw⟩ : ∃ W, W = w19.alloc (.cells #[.int .i64 n] 3) := ⟨_, rfl⟩
      have hx : Ext w19 w32 := by rw [hw]; exact (Ext.refl _).alloc _
      have tb := heap_new w19 _ rfl (.cells #[.int .i64 n] 3)
      rw [← hw] at tb
      have e32 := Lib.hid (e19.out.trans hx)
      have z32 := Lib.hid (show w19.heap.size ≤ w32.heap.size ∧ w19.heap.size < w32.heap.size from ⟨hx.le, blk_lt tb⟩)
      have rL32 := Lib.hid (rL19.out.ext hx)
      (try unfold msgC at hw)
      rw [← hw]
      clear hw hx
      refine hK.out _ _ (HSE.out _ e32.out) (gone (by kernel_rfl)) ?_
      clear hK K
      (try simp only [Act.put, List.setIfInBounds_toArray, List.set_cons_zero, List.set_cons_succ])
      obtain ⟨hI, hh⟩ : ∃ b, b = w19.heap.size := ⟨_, rfl⟩
      rw [← hh] at tb ⊢
      have HhI := Lib.hid hh
      clear hh
      have tI32 := Lib.hid tb
      clear tb
      refine wpF_step (i := 1) (by kernel_rfl) rfl (fun K hK => ?_)
      go_simp
      refine (CloneMsg_calls w32 (· ≠ g) _ s.ms (ht.out.ext e32.out) HSZ.out.1).mono ?_
      rintro e w33 ⟨vC, rfl, ho, hx⟩
      have e33 := Lib.hid (e32.out.trans hx)
      have z33 := Lib.hid (show w32.heap.size ≤ w33.heap.size from hx.le)
      have rL33 := Lib.hid (rL32.out.ext hx)
      have tI33 := Lib.hid (blk_ext tI32.out hx)
      have qC := Lib.hid (show ∀ k, vC.ownBlock = some k → w32.heap.size ≤ k ∧ k < w33.heap.size from fun k hk => ⟨ho.from_ k hk, ho.lt k hk⟩)
      have oC33 := Lib.hid (show Ow kMsg 26 w33 w32.heap.size (· ≠ g) vC s.ms from ho.mono (fun b hb => by have h1 := HGL.out; have hz0 := z0.out; have hz19 := z19.out; have hz32 := z32.out; rcases hb with hb | hb; omega; exact hb))
      obtain ⟨AC, nC, cC_, ev⟩ : ∃ A n c, vC = .slice A n c := by obtain ⟨A, c, e, _⟩ := _root_.id oC33.out.rs; exact ⟨_, _, _, e⟩
      subst ev
      clear ho hx
      (try go_wp2_with fail)
      refine hK.out _ _ (HSE.out _ e33.out) (gone (by kernel_rfl)) ?_
      clear hK K
      (try simp only [Act.put, List.setIfInBounds_toArray, List.set_cons_zero, List.set_cons_succ])
      refine wpF_step (i := 4) (by kernel_rfl) rfl (fun K hK => ?_)
      have hdist : ∀ b, (b = hL ∨ (b ≠ g ∧ b < w.heap.size)) → b ≠ g ∧ some b ≠ (.slice AC nC cC_ : Value).ownBlock := fun b hb => by
        have hz0 := z0.out; have hz19 := z19.out; have hz32 := z32.out; have hz33 := z33.out; have hH := HhL.out; have h1 := HGL.out
        refine ⟨by rcases hb with hb | hb; omega; exact hb.1, fun e => ?_⟩
        have h8 := qC.out b e.symm
        rcases hb with hb | hb <;> omega
      refine step_append_Rs kMsg 56 rfl rfl (.tmp 53) (.tmp 55) 28 26 rfl tMsgs w32.heap.size _ _ s.ms [m] (· ≠ g) _ rfl rfl oC33.out rL33.out (fun y cs hy => kMsg.mono hdist hy) (fun b hb => by have hz0 := z0.out; have hz19 := z19.out; have hz32 := z32.out; have hz33 := z33.out; have hH := HhL.out; have h1 := HGL.out; show b ≠ g; omega) HSZ.out.2.2.1 (by have hz0 := z0.out; have hz19 := z19.out; have hz32 := z32.out; have hz33 := z33.out; have hH := HhL.out; have h1 := HGL.out; omega) ?_
      intro vT w34 ho hg _
      have e34 := Lib.hid (e33.out.grown hg (fun k hk => by have h8 := qC.out k hk; have hz0 := z0.out; have hz19 := z19.out; have hz32 := z32.out; have hz33 := z33.out; have hH := HhL.out; have h1 := HGL.out; omega))
      have z34 := Lib.hid (show w33.heap.size ≤ w34.heap.size from hg.size)
      have tI34 := Lib.hid ((hg.block hI (blk_lt tI33.out) (fun e => by have h8 := qC.out hI e.symm; have hJ := HhI.out; have hz0 := z0.out; have hz19 := z19.out; have hz32 := z32.out; have hz33 := z33.out; have hH := HhL.out; have h1 := HGL.out; omega)).trans tI33.out)
      have rT34 := Lib.hid (show Rs kMsg w34 (fun b => b ≠ g ∧ b < w34.heap.size) vT (s.ms ++ [m]) from ho.rs.bound)
      obtain ⟨AT, nT, cT_, ev⟩ : ∃ A n c, vT = .slice A n c := by obtain ⟨A, c, e, _⟩ := _root_.id ho.rs; exact ⟨_, _, _, e⟩
      subst ev
      clear ho hg hdist
      refine hK.out _ _ (HSE.out _ e34.out) (gone (by kernel_rfl)) ?_
      clear hK K
      (try simp only [Act.put, List.setIfInBounds_toArray, List.set_cons_zero, List.set_cons_succ])
      refine wpF_step (i := 6) (by kernel_rfl) rfl (fun K hK => ?_)
      go_simp
      refine (CloneI_calls w34 (· ≠ g) _ s.ids (hi.out.ext e34.out) HSZ.out.2.1).mono ?_
      rintro e w35 ⟨vD, rfl, ho, hx⟩
      have e35 := Lib.hid (e34.out.trans hx)
      have z35 := Lib.hid (show w34.heap.size ≤ w35.heap.size from hx.le)
      have tI35 := Lib.hid (blk_ext tI34.out hx)
      have rT35 := Lib.hid (rT34.out.ext hx)
      have qD := Lib.hid (show ∀ k, vD.ownBlock = some k → w34.heap.size ≤ k ∧ k < w35.heap.size from fun k hk => ⟨ho.from_ k hk, ho.lt k hk⟩)
      have oD35 := Lib.hid (show Ow kInt 3 w35 w34.heap.size (· ≠ g) vD s.ids from ho.mono (fun b hb => by have h1 := HGL.out; have hz0 := z0.out; have hz19 := z19.out; have hz32 := z32.out; have hz33 := z33.out; have hz34 := z34.out; have h2 : w34.heap.size ≤ b := hb; omega))
      obtain ⟨AD, nD, cD_, ev⟩ : ∃ A n c, vD = .slice A n c := by obtain ⟨A, c, e, _⟩ := _root_.id oD35.out.rs; exact ⟨_, _, _, e⟩
      subst ev
      clear ho hx
      (try go_wp2_with fail)
      refine hK.out _ _ (HSE.out _ e35.out) (gone (by kernel_rfl)) ?_
      clear hK K
      (try simp only [Act.put, List.setIfInBounds_toArray, List.set_cons_zero, List.set_cons_succ])
      refine wpF_step (i := 9) (by kernel_rfl) rfl (fun K hK => ?_)
      refine step_append_Rs kInt 61 rfl rfl (.tmp 58) (.tmp 60) 23 3 rfl tInts w34.heap.size _ _ s.ids [n] (· ≠ g) (fun _ => True) rfl rfl oD35.out (Rs.one_intb tI35.out trivial hn) (fun _ _ h => h) (fun b hb => by have hz0 := z0.out; have hz19 := z19.out; have hz32 := z32.out; have hz33 := z33.out; have hz34 := z34.out; have hz35 := z35.out; have hJ := HhI.out; have h1 := HGL.out; show b ≠ g; omega) HSZ.out.2.2.2 (by have hz0 := z0.out; have hz19 := z19.out; have hz32 := z32.out; have hz33 := z33.out; have hz34 := z34.out; have hz35 := z35.out; have hJ := HhI.out; have h1 := HGL.out; omega) ?_
      intro vI w36 ho hg _
      have e36 := Lib.hid (e35.out.grown hg (fun k hk => by have h8 := qD.out k hk; have hz0 := z0.out; have hz19 := z19.out; have hz32 := z32.out; have hz33 := z33.out; have hz34 := z34.out; have hz35 := z35.out; have hJ := HhI.out; have h1 := HGL.out; omega))
      have z36 := Lib.hid (show w35.heap.size ≤ w36.heap.size from hg.size)
      have rT36 := Lib.hid (rT35.out.grown hg (fun k hk hb => by have h8 := qD.out k hk; have h9 := hb.2; have hz0 := z0.out; have hz19 := z19.out; have hz32 := z32.out; have hz33 := z33.out; have hz34 := z34.out; have hz35 := z35.out; have hJ := HhI.out; have h1 := HGL.out; omega))
      have rI36 := Lib.hid (show Rs kInt w36 (· ≠ g) vI (s.ids ++ [n]) from ho.rs)
      obtain ⟨AI, nI, cI_, ev⟩ : ∃ A n c, vI = .slice A n c := by obtain ⟨A, c, e, _⟩ := _root_.id ho.rs; exact ⟨_, _, _, e⟩
      subst ev
      clear ho hg
      refine hK.out _ _ (HSE.out _ e36.out) (gone (by kernel_rfl)) ?_
      clear hK K
      (try simp only [Act.put, List.setIfInBounds_toArray, List.set_cons_zero, List.set_cons_succ])
      refine wpF_take0 (i := 10) (v := ?v19) rfl (by kernel_rfl) (by kernel_rfl) (by kernel_rfl) (fun _ _ _ h => h) (by kernel_rfl) (Or.inl ⟨by rfl, ?hy19⟩) (HSE.out _ e36.out) (gone (by kernel_rfl)) ?rest19
      case hy19 => (intro W hSW; (try dsimp only at hSW); go_simp; (try with_reducible rfl))
      (try simp only [Act.put, List.setIfInBounds_toArray, List.set_cons_zero, List.set_cons_succ])
      refine wpF_take0 (i := 11) (v := ?v20) rfl (by kernel_rfl) (by kernel_rfl) (by kernel_rfl) (fun _ _ _ h => h) (by kernel_rfl) (Or.inl ⟨by rfl, ?hy20⟩) (HSE.out _ e36.out) (gone (by kernel_rfl)) ?rest20
      case hy20 => (intro W hSW; (try dsimp only at hSW); go_simp; (try with_reducible rfl))
      (try simp only [Act.put, List.setIfInBounds_toArray, List.set_cons_zero, List.set_cons_succ])
      refine wpF_done (by kernel_rfl) ?_ _
      refine NoPanic.normal ?_
      exact hK2.out _ _ _ _ _ _ _ _ _ _ _ _ _  (Lib.hid ⟨rT36.out.mono (fun b hb => hb.1), rI36.out, e36.out⟩)
  · go_simp
    obtain ⟨w37, hw⟩ : ∃ W, W = w0.alloc (.cells #[.int .i64 n] 3) := ⟨_, rfl⟩
    have hx : Ext w0 w37 := by rw [hw]; exact (Ext.refl _).alloc _
    have tb := heap_new w0 _ rfl (.cells #[.int .i64 n] 3)
    rw [← hw] at tb
    have e37 := Lib.hid (e0.out.trans hx)
    have z37 := Lib.hid (show w0.heap.size ≤ w37.heap.size ∧ w0.heap.size < w37.heap.size from ⟨hx.le, blk_lt tb⟩)
    (try unfold msgC at hw)
    rw [← hw]
    clear hw hx
    refine hK.out _ _ (HSE.out _ e37.out) (gone (by kernel_rfl)) ?_
    clear hK K
    (try simp only [Act.put, List.setIfInBounds_toArray, List.set_cons_zero, List.set_cons_succ])
    obtain ⟨hI, hh⟩ : ∃ b, b = w0.heap.size := ⟨_, rfl⟩
    rw [← hh] at tb ⊢
    have HhI := Lib.hid hh
    clear hh
    have tI37 := Lib.hid tb
    clear tb
    refine wpF_step2 (i := 1) (j := 3) (by kernel_rfl) rfl rfl (fun K hK => ?_) (fun K hK => ?_)
    · go_simp
      refine (CloneMsg_calls w37 (· ≠ g) _ s.ms (ht.out.ext e37.out) HSZ.out.1).mono ?_
      rintro e w38 ⟨vC, rfl, ho, hx⟩
      have e38 := Lib.hid (e37.out.trans hx)
      have z38 := Lib.hid (show w37.heap.size ≤ w38.heap.size from hx.le)
      have tI38 := Lib.hid (blk_ext tI37.out hx)
      have qC := Lib.hid (show ∀ k, vC.ownBlock = some k → w37.heap.size ≤ k ∧ k < w38.heap.size from fun k hk => ⟨ho.from_ k hk, ho.lt k hk⟩)
      have oC38 := Lib.hid (show Ow kMsg 26 w38 w37.heap.size (· ≠ g) vC s.ms from ho.mono (fun b hb => by have h1 := HGL.out; have hz0 := z0.out; have hz37 := z37.out; rcases hb with hb | hb; omega; exact hb))
      obtain ⟨AC, nC, cC_, ev⟩ : ∃ A n c, vC = .slice A n c := by obtain ⟨A, c, e, _⟩ := _root_.id oC38.out.rs; exact ⟨_, _, _, e⟩
      subst ev
      clear ho hx
      (try go_wp2_with fail)
      refine hK.out _ _ (HSE.out _ e38.out) (gone (by kernel_rfl)) ?_
      clear hK K
      (try simp only [Act.put, List.setIfInBounds_toArray, List.set_cons_zero, List.set_cons_succ])
      refine wpF_step (i := 3) (by kernel_rfl) rfl (fun K hK => ?_)
      go_simp
      obtain ⟨w39, hw⟩ : ∃ W, W = w38.alloc (.cells (msgC m (.slice Ae m.entries.length ce) (.slice Av m.voters.length cv) (.slice Ad m.data.length cd)) 26) := ⟨_, rfl⟩
      have hx : Ext w38 w39 := by rw [hw]; exact (Ext.refl _).alloc _
      have tb := heap_new w38 _ rfl (.cells (msgC m (.slice Ae m.entries.length ce) (.slice Av m.voters.length cv) (.slice Ad m.data.length cd)) 26)
      rw [← hw] at tb
      have e39 := Lib.hid (e38.out.trans hx)
      have z39 := Lib.hid (show w38.heap.size ≤ w39.heap.size ∧ w38.heap.size < w39.heap.size from ⟨hx.le, blk_lt tb⟩)
      have oC39 := Lib.hid (oC38.out.ext hx)
      have tI39 := Lib.hid (blk_ext tI38.out hx)
      (try unfold msgC at hw)
      rw [← hw]
      clear hw hx
      refine hK.out _ _ (HSE.out _ e39.out) (gone (by kernel_rfl)) ?_
      clear hK K
      (try simp only [Act.put, List.setIfInBounds_toArray, List.set_cons_zero, List.set_cons_succ])
      obtain ⟨hL, hh⟩ : ∃ b, b = w38.heap.size := ⟨_, rfl⟩
      rw [← hh] at tb ⊢
      have HhL := Lib.hid hh
      clear hh
      have rL39 := Lib.hid (show Rs kMsg w39 (fun b => b = hL ∨ (b ≠ g ∧ b < w.heap.size)) (.slice (some ⟨hL, 0, none⟩) 1 1) [m] from Rs.one_msg tb (.inl rfl) (((hm.out.bound).ext e39.out).mono (fun b hb => .inr hb)))
      clear tb
      refine wpF_step (i := 4) (by kernel_rfl) rfl (fun K hK => ?_)
      have hdist : ∀ b, (b = hL ∨ (b ≠ g ∧ b < w.heap.size)) → b ≠ g ∧ some b ≠ (.slice AC nC cC_ : Value).ownBlock := fun b hb => by
        have hz0 := z0.out; have hz37 := z37.out; have hz38 := z38.out; have hz39 := z39.out; have hH := HhL.out; have h1 := HGL.out
        refine ⟨by rcases hb with hb | hb; omega; exact hb.1, fun e => ?_⟩
        have h8 := qC.out b e.symm
        rcases hb with hb | hb <;> omega
      refine step_append_Rs kMsg 56 rfl rfl (.tmp 53) (.tmp 55) 28 26 rfl tMsgs w37.heap.size _ _ s.ms [m] (· ≠ g) _ rfl rfl oC39.out rL39.out (fun y cs hy => kMsg.mono hdist hy) (fun b hb => by have hz0 := z0.out; have hz37 := z37.out; have hz38 := z38.out; have hz39 := z39.out; have hH := HhL.out; have h1 := HGL.out; show b ≠ g; omega) HSZ.out.2.2.1 (by have hz0 := z0.out; have hz37 := z37.out; have hz38 := z38.out; have hz39 := z39.out; have hH := HhL.out; have h1 := HGL.out; omega) ?_
      intro vT w40 ho hg _
      have e40 := Lib.hid (e39.out.grown hg (fun k hk => by have h8 := qC.out k hk; have hz0 := z0.out; have hz37 := z37.out; have hz38 := z38.out; have hz39 := z39.out; have hH := HhL.out; have h1 := HGL.out; omega))
      have z40 := Lib.hid (show w39.heap.size ≤ w40.heap.size from hg.size)
      have tI40 := Lib.hid ((hg.block hI (blk_lt tI39.out) (fun e => by have h8 := qC.out hI e.symm; have hJ := HhI.out; have hz0 := z0.out; have hz37 := z37.out; have hz38 := z38.out; have hz39 := z39.out; have hH := HhL.out; have h1 := HGL.out; omega)).trans tI39.out)
      have rT40 := Lib.hid (show Rs kMsg w40 (fun b => b ≠ g ∧ b < w40.heap.size) vT (s.ms ++ [m]) from ho.rs.bound)
      obtain ⟨AT, nT, cT_, ev⟩ : ∃ A n c, vT = .slice A n c := by obtain ⟨A, c, e, _⟩ := _root_.id ho.rs; exact ⟨_, _, _, e⟩
      subst ev
      clear ho hg hdist
      refine hK.out _ _ (HSE.out _ e40.out) (gone (by kernel_rfl)) ?_
      clear hK K
      (try simp only [Act.put, List.setIfInBounds_toArray, List.set_cons_zero, List.set_cons_succ])
      refine wpF_step (i := 6) (by kernel_rfl) rfl (fun K hK => ?_)
      go_simp
      refine (CloneI_calls w40 (· ≠ g) _ s.ids (hi.out.ext e40.out) HSZ.out.2.1).mono ?_
      rintro e w41 ⟨vD, rfl, ho, hx⟩
      have e41 := Lib.hid (e40.out.trans hx)
      have z41 := Lib.hid (show w40.heap.size ≤ w41.heap.size from hx.le)
      have tI41 := Lib.hid (blk_ext tI40.out hx)
      have rT41 := Lib.hid (rT40.out.ext hx)
      have qD := Lib.hid (show ∀ k, vD.ownBlock = some k → w40.heap.size ≤ k ∧ k < w41.heap.size from fun k hk => ⟨ho.from_ k hk, ho.lt k hk⟩)
      have oD41 := Lib.hid (show Ow kInt 3 w41 w40.heap.size (· ≠ g) vD s.ids from ho.mono (fun b hb => by have h1 := HGL.out; have hz0 := z0.out; have hz37 := z37.out; have hz38 := z38.out; have hz39 := z39.out; have hz40 := z40.out; have h2 : w40.heap.size ≤ b := hb; omega))
      obtain ⟨AD, nD, cD_, ev⟩ : ∃ A n c, vD = .slice A n c := by obtain ⟨A, c, e, _⟩ := _root_.id oD41.out.rs; exact ⟨_, _, _, e⟩
      subst ev
      clear ho hx
      (try go_wp2_with fail)
      refine hK.out _ _ (HSE.out _ e41.out) (gone (by kernel_rfl)) ?_
      clear hK K
      (try simp only [Act.put, List.setIfInBounds_toArray, List.set_cons_zero, List.set_cons_succ])
      refine wpF_step (i := 9) (by kernel_rfl) rfl (fun K hK => ?_)
      refine step_append_Rs kInt 61 rfl rfl (.tmp 58) (.tmp 60) 23 3 rfl tInts w40.heap.size _ _ s.ids [n] (· ≠ g) (fun _ => True) rfl rfl oD41.out (Rs.one_intb tI41.out trivial hn) (fun _ _ h => h) (fun b hb => by have hz0 := z0.out; have hz37 := z37.out; have hz38 := z38.out; have hz39 := z39.out; have hz40 := z40.out; have hz41 := z41.out; have hJ := HhI.out; have h1 := HGL.out; show b ≠ g; omega) HSZ.out.2.2.2 (by have hz0 := z0.out; have hz37 := z37.out; have hz38 := z38.out; have hz39 := z39.out; have hz40 := z40.out; have hz41 := z41.out; have hJ := HhI.out; have h1 := HGL.out; omega) ?_
      intro vI w42 ho hg _
      have e42 := Lib.hid (e41.out.grown hg (fun k hk => by have h8 := qD.out k hk; have hz0 := z0.out; have hz37 := z37.out; have hz38 := z38.out; have hz39 := z39.out; have hz40 := z40.out; have hz41 := z41.out; have hJ := HhI.out; have h1 := HGL.out; omega))
      have z42 := Lib.hid (show w41.heap.size ≤ w42.heap.size from hg.size)
      have rT42 := Lib.hid (rT41.out.grown hg (fun k hk hb => by have h8 := qD.out k hk; have h9 := hb.2; have hz0 := z0.out; have hz37 := z37.out; have hz38 := z38.out; have hz39 := z39.out; have hz40 := z40.out; have hz41 := z41.out; have hJ := HhI.out; have h1 := HGL.out; omega))
      have rI42 := Lib.hid (show Rs kInt w42 (· ≠ g) vI (s.ids ++ [n]) from ho.rs)
      obtain ⟨AI, nI, cI_, ev⟩ : ∃ A n c, vI = .slice A n c := by obtain ⟨A, c, e, _⟩ := _root_.id ho.rs; exact ⟨_, _, _, e⟩
      subst ev
      clear ho hg
      refine hK.out _ _ (HSE.out _ e42.out) (gone (by kernel_rfl)) ?_
      clear hK K
      (try simp only [Act.put, List.setIfInBounds_toArray, List.set_cons_zero, List.set_cons_succ])
      refine wpF_take0 (i := 10) (v := ?v21) rfl (by kernel_rfl) (by kernel_rfl) (by kernel_rfl) (fun _ _ _ h => h) (by kernel_rfl) (Or.inl ⟨by rfl, ?hy21⟩) (HSE.out _ e42.out) (gone (by kernel_rfl)) ?rest21
      case hy21 => (intro W hSW; (try dsimp only at hSW); go_simp; (try with_reducible rfl))
      (try simp only [Act.put, List.setIfInBounds_toArray, List.set_cons_zero, List.set_cons_succ])
      refine wpF_take0 (i := 11) (v := ?v22) rfl (by kernel_rfl) (by kernel_rfl) (by kernel_rfl) (fun _ _ _ h => h) (by kernel_rfl) (Or.inl ⟨by rfl, ?hy22⟩) (HSE.out _ e42.out) (gone (by kernel_rfl)) ?rest22
      case hy22 => (intro W hSW; (try dsimp only at hSW); go_simp; (try with_reducible rfl))
      (try simp only [Act.put, List.setIfInBounds_toArray, List.set_cons_zero, List.set_cons_succ])
      refine wpF_done (by kernel_rfl) ?_ _
      refine NoPanic.normal ?_
      exact hK2.out _ _ _ _ _ _ _ _ _ _ _ _ _  (Lib.hid ⟨rT42.out.mono (fun b hb => hb.1), rI42.out, e42.out⟩)
    · go_simp
      obtain ⟨w43, hw⟩ : ∃ W, W = w37.alloc (.cells (msgC m (.slice Ae m.entries.length ce) (.slice Av m.voters.length cv) (.slice Ad m.data.length cd)) 26) := ⟨_, rfl⟩
      have hx : Ext w37 w43 := by rw [hw]; exact (Ext.refl _).alloc _
      have tb := heap_new w37 _ rfl (.cells (msgC m (.slice Ae m.entries.length ce) (.slice Av m.voters.length cv) (.slice Ad m.data.length cd)) 26)
      rw [← hw] at tb
      have e43 := Lib.hid (e37.out.trans hx)
      have z43 := Lib.hid (show w37.heap.size ≤ w43.heap.size ∧ w37.heap.size < w43.heap.size from ⟨hx.le, blk_lt tb⟩)
      have tI43 := Lib.hid (blk_ext tI37.out hx)
      (try unfold msgC at hw)
      rw [← hw]
      clear hw hx
      refine hK.out _ _ (HSE.out _ e43.out) (gone (by kernel_rfl)) ?_
      clear hK K
      (try simp only [Act.put, List.setIfInBounds_toArray, List.set_cons_zero, List.set_cons_succ])
      obtain ⟨hL, hh⟩ : ∃ b, b = w37.heap.size := ⟨_, rfl⟩
      rw [← hh] at tb ⊢
      have HhL := Lib.hid hh
      clear hh
      have rL43 := Lib.hid (show Rs kMsg w43 (fun b => b = hL ∨ (b ≠ g ∧ b < w.heap.size)) (.slice (some ⟨hL, 0, none⟩) 1 1) [m] from Rs.one_msg tb (.inl rfl) (((hm.out.bound).ext e43.out).mono (fun b hb => .inr hb)))
      clear tb
      refine wpF_step (i := 1) (by kernel_rfl) rfl (fun K hK => ?_)
      go_simp
      refine (CloneMsg_calls w43 (· ≠ g) _ s.ms (ht.out.ext e43.out) HSZ.out.1).mono ?_
      rintro e w44 ⟨vC, rfl, ho, hx⟩
      have e44 := Lib.hid (e43.out.trans hx)
      have z44 := Lib.hid (show w43.heap.size ≤ w44.heap.size from hx.le)
      have rL44 := Lib.hid (rL43.out.ext hx)
      have tI44 := Lib.hid (blk_ext tI43.out hx)
      have qC := Lib.hid (show ∀ k, vC.ownBlock = some k → w43.heap.size ≤ k ∧ k < w44.heap.size from fun k hk => ⟨ho.from_ k hk, ho.lt k hk⟩)
      have oC44 := Lib.hid (show Ow kMsg 26 w44 w43.heap.size (· ≠ g) vC s.ms from ho.mono (fun b hb => by have h1 := HGL.out; have hz0 := z0.out; have hz37 := z37.out; have hz43 := z43.out; rcases hb with hb | hb; omega; exact hb))
      obtain ⟨AC, nC, cC_, ev⟩ : ∃ A n c, vC = .slice A n c := by obtain ⟨A, c, e, _⟩ := _root_.id oC44.out.rs; exact ⟨_, _, _, e⟩
      subst ev
      clear ho hx
      (try go_wp2_with fail)
      refine hK.out _ _ (HSE.out _ e44.out) (gone (by kernel_rfl)) ?_
      clear hK K
      (try simp only [Act.put, List.setIfInBounds_toArray, List.set_cons_zero, List.set_cons_succ])
      refine wpF_step (i := 4) (by kernel_rfl) rfl (fun K hK => ?_)
      have hdist : ∀ b, (b = hL ∨ (b ≠ g ∧ b < w.heap.size)) → b ≠ g ∧ some b ≠ (.slice AC nC cC_ : Value).ownBlock := fun b hb => by
        have hz0 := z0.out; have hz37 := z37.out; have hz43 := z43.out; have hz44 := z44.out; have hH := HhL.out; have h1 := HGL.out
        refine ⟨by rcases hb with hb | hb; omega; exact hb.1, fun e => ?_⟩
        have h8 := qC.out b e.symm
        rcases hb with hb | hb <;> omega
      refine step_append_Rs kMsg 56 rfl rfl (.tmp 53) (.tmp 55) 28 26 rfl tMsgs w43.heap.size _ _ s.ms [m] (· ≠ g) _ rfl rfl oC44.out rL44.out (fun y cs hy => kMsg.mono hdist hy) (fun b hb => by have hz0 := z0.out; have hz37 := z37.out; have hz43 := z43.out; have hz44 := z44.out; have hH := HhL.out; have h1 := HGL.out; show b ≠ g; omega) HSZ.out.2.2.1 (by have hz0 := z0.out; have hz37 := z37.out; have hz43 := z43.out; have hz44 := z44.out; have hH := HhL.out; have h1 := HGL.out; omega) ?_
      intro vT w45 ho hg _
      have e45 := Lib.hid (e44.out.grown hg (fun k hk => by have h8 := qC.out k hk; have hz0 := z0.out; have hz37 := z37.out; have hz43 := z43.out; have hz44 := z44.out; have hH := HhL.out; have h1 := HGL.out; omega))
      have z45 := Lib.hid (show w44.heap.size ≤ w45.heap.size from hg.size)
      have tI45 := Lib.hid ((hg.block hI (blk_lt tI44.out) (fun e => by have h8 := qC.out hI e.symm; have hJ := HhI.out; have hz0 := z0.out; have hz37 := z37.out; have hz43 := z43.out; have hz44 := z44.out; have hH := HhL.out; have h1 := HGL.out; omega)).trans tI44.out)
      have rT45 := Lib.hid (show Rs kMsg w45 (fun b => b ≠ g ∧ b < w45.heap.size) vT (s.ms ++ [m]) from ho.rs.bound)
      obtain ⟨AT, nT, cT_, ev⟩ : ∃ A n c, vT = .slice A n c := by obtain ⟨A, c, e, _⟩ := _root_.id ho.rs; exact ⟨_, _, _, e⟩
      subst ev
      clear ho hg hdist
      refine hK.out _ _ (HSE.out _ e45.out) (gone (by kernel_rfl)) ?_
      clear hK K
      (try simp only [Act.put, List.setIfInBounds_toArray, List.set_cons_zero, List.set_cons_succ])
      refine wpF_step (i := 6) (by kernel_rfl) rfl (fun K hK => ?_)
      go_simp
      refine (CloneI_calls w45 (· ≠ g) _ s.ids (hi.out.ext e45.out) HSZ.out.2.1).mono ?_
      rintro e w46 ⟨vD, rfl, ho, hx⟩
      have e46 := Lib.hid (e45.out.trans hx)
      have z46 := Lib.hid (show w45.heap.size ≤ w46.heap.size from hx.le)
      have tI46 := Lib.hid (blk_ext tI45.out hx)
      have rT46 := Lib.hid (rT45.out.ext hx)
      have qD := Lib.hid (show ∀ k, vD.ownBlock = some k → w45.heap.size ≤ k ∧ k < w46.heap.size from fun k hk => ⟨ho.from_ k hk, ho.lt k hk⟩)
      have oD46 := Lib.hid (show Ow kInt 3 w46 w45.heap.size (· ≠ g) vD s.ids from ho.mono (fun b hb => by have h1 := HGL.out; have hz0 := z0.out; have hz37 := z37.out; have hz43 := z43.out; have hz44 := z44.out; have hz45 := z45.out; have h2 : w45.heap.size ≤ b := hb; omega))
      obtain ⟨AD, nD, cD_, ev⟩ : ∃ A n c, vD = .slice A n c := by obtain ⟨A, c, e, _⟩ := _root_.id oD46.out.rs; exact ⟨_, _, _, e⟩
      subst ev
      clear ho hx
      (try go_wp2_with fail)
      refine hK.out _ _ (HSE.out _ e46.out) (gone (by kernel_rfl)) ?_
      clear hK K
      (try simp only [Act.put, List.setIfInBounds_toArray, List.set_cons_zero, List.set_cons_succ])
      refine wpF_step (i := 9) (by kernel_rfl) rfl (fun K hK => ?_)
      refine step_append_Rs kInt 61 rfl rfl (.tmp 58) (.tmp 60) 23 3 rfl tInts w45.heap.size _ _ s.ids [n] (· ≠ g) (fun _ => True) rfl rfl oD46.out (Rs.one_intb tI46.out trivial hn) (fun _ _ h => h) (fun b hb => by have hz0 := z0.out; have hz37 := z37.out; have hz43 := z43.out; have hz44 := z44.out; have hz45 := z45.out; have hz46 := z46.out; have hJ := HhI.out; have h1 := HGL.out; show b ≠ g; omega) HSZ.out.2.2.2 (by have hz0 := z0.out; have hz37 := z37.out; have hz43 := z43.out; have hz44 := z44.out; have hz45 := z45.out; have hz46 := z46.out; have hJ := HhI.out; have h1 := HGL.out; omega) ?_
      intro vI w47 ho hg _
      have e47 := Lib.hid (e46.out.grown hg (fun k hk => by have h8 := qD.out k hk; have hz0 := z0.out; have hz37 := z37.out; have hz43 := z43.out; have hz44 := z44.out; have hz45 := z45.out; have hz46 := z46.out; have hJ := HhI.out; have h1 := HGL.out; omega))
      have z47 := Lib.hid (show w46.heap.size ≤ w47.heap.size from hg.size)
      have rT47 := Lib.hid (rT46.out.grown hg (fun k hk hb => by have h8 := qD.out k hk; have h9 := hb.2; have hz0 := z0.out; have hz37 := z37.out; have hz43 := z43.out; have hz44 := z44.out; have hz45 := z45.out; have hz46 := z46.out; have hJ := HhI.out; have h1 := HGL.out; omega))
      have rI47 := Lib.hid (show Rs kInt w47 (· ≠ g) vI (s.ids ++ [n]) from ho.rs)
      obtain ⟨AI, nI, cI_, ev⟩ : ∃ A n c, vI = .slice A n c := by obtain ⟨A, c, e, _⟩ := _root_.id ho.rs; exact ⟨_, _, _, e⟩
      subst ev
      clear ho hg
      refine hK.out _ _ (HSE.out _ e47.out) (gone (by kernel_rfl)) ?_
      clear hK K
      (try simp only [Act.put, List.setIfInBounds_toArray, List.set_cons_zero, List.set_cons_succ])
      refine wpF_take0 (i := 10) (v := ?v23) rfl (by kernel_rfl) (by kernel_rfl) (by kernel_rfl) (fun _ _ _ h => h) (by kernel_rfl) (Or.inl ⟨by rfl, ?hy23⟩) (HSE.out _ e47.out) (gone (by kernel_rfl)) ?rest23
      case hy23 => (intro W hSW; (try dsimp only at hSW); go_simp; (try with_reducible rfl))
      (try simp only [Act.put, List.setIfInBounds_toArray, List.set_cons_zero, List.set_cons_succ])
      refine wpF_take0 (i := 11) (v := ?v24) rfl (by kernel_rfl) (by kernel_rfl) (by kernel_rfl) (fun _ _ _ h => h) (by kernel_rfl) (Or.inl ⟨by rfl, ?hy24⟩) (HSE.out _ e47.out) (gone (by kernel_rfl)) ?rest24
      case hy24 => (intro W hSW; (try dsimp only at hSW); go_simp; (try with_reducible rfl))
      (try simp only [Act.put, List.setIfInBounds_toArray, List.set_cons_zero, List.set_cons_succ])
      refine wpF_done (by kernel_rfl) ?_ _
      refine NoPanic.normal ?_
      exact hK2.out _ _ _ _ _ _ _ _ _ _ _ _ _  (Lib.hid ⟨rT47.out.mono (fun b hb => hb.1), rI47.out, e47.out⟩)

set_option maxRecDepth 1000000 in
set_option maxHeartbeats 16000000 in
theorem kp29 {Q : Exit → Act → World → Prop} {w : World} {c0 c1 c2 c3 c7 c8 c10 c11 c12 c13 c14 c15 c16 c17 c18 c19 c20 c21 c22 c23 c24 c25 c26 c27 c28 c29 c30 c31 c32 c33 c34 c35 c36 c37 c38 c39 c40 c41 c42 c43 c44 c45 c46 c47 c48 c49 c50 c51 c52 c53 c54 c55 c56 c57 c58 c59 c60 c61 c62 c63 c64 c65 c66 c67 c68 c69 c70 c71 c72 c73 c74 c75 c76 c77 c78 c79 c80 c81 c82 c83 c84 c85 c86 c87 c88 c89 c90 c91 c92 c93 c94 c95 c96 c97 c98 c99 c100 c101 c102 c103 c104 c105 c106 c107 c108 c109 c110 c111 c112 c113 c114 c115 c116 c117 c118 c119 c120 c121 c122 c123 c124 c125 c126 c127 c128 c129 c130 c131 c132 c133 c134 c135 c136 c137 c138 c139 c140 c141 c142 c143 c144 c145 c146 c147 c148 c149 c150 c151 c152 c153 c154 c155 c156 c157 c158 c159 c160 c161 c162 c163 : Value} (g : Nat) (s : BagS) (m : MsgS) (ad : Addr) (Ai Ae Av Ad : Option Addr) (ct ci ce cv cd : Nat) (n : Int) (ht : Hid (Rs kMsg w (· ≠ g) (.slice (some ad) s.ms.length ct) s.ms)) (hi : Hid (Rs kInt w (· ≠ g) (.slice Ai s.ids.length ci) s.ids)) (hm : Hid (MsgV w (· ≠ g) (.agg (msgC m (.slice Ae m.entries.length ce) (.slice Av m.voters.length cv) (.slice Ad m.data.length cd))) m)) (hl1 : s.ms.length ≤ 256) (hl2 : s.ids.length ≤ 256) (hn : I64 n) (hgl : g < w.heap.size) (i : Nat) (hlt : i < s.ms.length) (hq : Hid (∀ W : World, Ext w W → W.cell? (ad.add (i * 13)) = some (.int .i64 m.kind) ∧ W.cell? ⟨(ad.add (i * 13)).block, (ad.add (i * 13)).off + 1, none⟩ = some (.int .i64 m.from_) ∧ W.cell? ⟨(ad.add (i * 13)).block, (ad.add (i * 13)).off + 2, none⟩ = some (.int .i64 m.to_) ∧ W.cell? ⟨(ad.add (i * 13)).block, (ad.add (i * 13)).off + 3, none⟩ = some (.int .i64 m.term) ∧ W.cell? ⟨(ad.add (i * 13)).block, (ad.add (i * 13)).off + 4, none⟩ = some (.int .i64 m.index) ∧ W.cell? ⟨(ad.add (i * 13)).block, (ad.add (i * 13)).off + 5, none⟩ = some (.int .i64 m.logTerm) ∧ W.cell? ⟨(ad.add (i * 13)).block, (ad.add (i * 13)).off + 6, none⟩ = some (.int .i64 m.commit) ∧ W.cell? ⟨(ad.add (i * 13)).block, (ad.add (i * 13)).off + 7, none⟩ = some (.int .i64 m.round) ∧ W.cell? ⟨(ad.add (i * 13)).block, (ad.add (i * 13)).off + 8, none⟩ = some (.bool m.yes) ∧ W.cell? ⟨(ad.add (i * 13)).block, (ad.add (i * 13)).off + 9, none⟩ = some (.bool m.done) ∧ W.cell? ⟨(ad.add (i * 13)).block, (ad.add (i * 13)).off + 10, none⟩ = some (.slice Ae m.entries.length ce) ∧ W.cell? ⟨(ad.add (i * 13)).block, (ad.add (i * 13)).off + 11, none⟩ = some (.slice Av m.voters.length cv) ∧ W.cell? ⟨(ad.add (i * 13)).block, (ad.add (i * 13)).off + 12, none⟩ = some (.slice Ad m.data.length cd)))
    (hK : ∀ (u4 u5 u114 u115 u116 u117 u118 u119 u120 u121 u122 u123 u124 u125 u126 : Value) (wx : World), Hid (Rs kMsg wx (· ≠ g) u4 (s.ms ++ [m]) ∧ Rs kInt wx (· ≠ g) u5 (s.ids ++ [n]) ∧ Ext w wx) → Q .normal ⟨#[c0, c1, c2, c3, u4, u5, .int .i64 n, c7, c8, .int .i64 (i : Int), c10, c11, c12, c13, c14, c15, c16, c17, c18, c19, c20, c21, c22, c23, c24, c25, c26, c27, c28, c29, c30, c31, c32, c33, c34, c35, c36, c37, c38, c39, c40, c41, c42, c43, c44, c45, c46, c47, c48, c49, c50, c51, c52, c53, c54, c55, c56, c57, c58, c59, c60, c61, c62, c63, c64, c65, c66, c67, c68, c69, c70, c71, c72, c73, c74, c75, c76, c77, c78, c79, c80, c81, c82, c83, c84, c85, c86, c87, c88, c89, c90, c91, c92, c93, c94, c95, c96, c97, c98, c99, c100, c101, c102, c103, c104, c105, c106, c107, c108, c109, c110, c111, c112, c113, u114, u115, u116, u117, u118, u119, u120, u121, u122, u123, u124, u125, u126, c127, c128, c129, c130, c131, c132, c133, c134, c135, c136, c137, c138, c139, c140, c141, c142, c143, c144, c145, c146, c147, c148, c149, c150, c151, c152, c153, c154, c155, c156, c157, c158, c159, c160, c161, c162, c163], []⟩ wx) :
    Code.wp Try.prog ((Try.f9.body.bind (regionAt 29)).getD .skip) Q ⟨#[c0, c1, c2, c3, .slice (some ad) s.ms.length ct, .slice Ai s.ids.length ci, .int .i64 n, c7, c8, .int .i64 (i : Int), c10, c11, c12, c13, c14, c15, c16, c17, c18, c19, c20, c21, c22, c23, c24, c25, c26, c27, c28, c29, c30, c31, c32, c33, c34, c35, c36, c37, c38, c39, c40, c41, c42, c43, c44, c45, c46, c47, c48, c49, c50, c51, c52, c53, c54, c55, c56, c57, c58, c59, c60, c61, c62, c63, c64, c65, c66, c67, c68, c69, c70, c71, c72, c73, c74, c75, c76, c77, c78, c79, c80, c81, c82, c83, c84, c85, c86, c87, c88, c89, c90, c91, c92, c93, c94, c95, c96, c97, c98, c99, c100, c101, c102, c103, c104, c105, c106, c107, c108, c109, c110, c111, c112, c113, c114, c115, c116, c117, c118, c119, c120, c121, c122, c123, c124, c125, c126, c127, c128, c129, c130, c131, c132, c133, c134, c135, c136, c137, c138, c139, c140, c141, c142, c143, c144, c145, c146, c147, c148, c149, c150, c151, c152, c153, c154, c155, c156, c157, c158, c159, c160, c161, c162, c163], []⟩ w := by
  conv => arg 2; whnf
  have hK2 := Lib.hid @hK
  obtain ⟨w0, hw0⟩ : ∃ W, W = w.drew := ⟨_, rfl⟩
  have e0 := Lib.hid (show Ext w w0 by rw [hw0]; exact (Ext.refl w).drew)
  have z0 := Lib.hid (show w0.heap.size = w.heap.size by rw [hw0]; rfl)
  have HGL := Lib.hid hgl
  have HSE := Lib.hid (show ∀ W : World, Ext w W → W.cell? (ad.add (i * 13)) = some (.int .i64 m.kind) ∧ W.cell? ⟨(ad.add (i * 13)).block, (ad.add (i * 13)).off + 1, none⟩ = some (.int .i64 m.from_) ∧ W.cell? ⟨(ad.add (i * 13)).block, (ad.add (i * 13)).off + 2, none⟩ = some (.int .i64 m.to_) ∧ W.cell? ⟨(ad.add (i * 13)).block, (ad.add (i * 13)).off + 3, none⟩ = some (.int .i64 m.term) ∧ W.cell? ⟨(ad.add (i * 13)).block, (ad.add (i * 13)).off + 4, none⟩ = some (.int .i64 m.index) ∧ W.cell? ⟨(ad.add (i * 13)).block, (ad.add (i * 13)).off + 5, none⟩ = some (.int .i64 m.logTerm) ∧ W.cell? ⟨(ad.add (i * 13)).block, (ad.add (i * 13)).off + 6, none⟩ = some (.int .i64 m.commit) ∧ W.cell? ⟨(ad.add (i * 13)).block, (ad.add (i * 13)).off + 7, none⟩ = some (.int .i64 m.round) ∧ W.cell? ⟨(ad.add (i * 13)).block, (ad.add (i * 13)).off + 8, none⟩ = some (.bool m.yes) ∧ W.cell? ⟨(ad.add (i * 13)).block, (ad.add (i * 13)).off + 9, none⟩ = some (.bool m.done) ∧ W.cell? ⟨(ad.add (i * 13)).block, (ad.add (i * 13)).off + 10, none⟩ = some (.slice Ae m.entries.length ce) ∧ W.cell? ⟨(ad.add (i * 13)).block, (ad.add (i * 13)).off + 11, none⟩ = some (.slice Av m.voters.length cv) ∧ W.cell? ⟨(ad.add (i * 13)).block, (ad.add (i * 13)).off + 12, none⟩ = some (.slice Ad m.data.length cd) from hq.out)
  have HSZ := Lib.hid (show s.ms.length * 144 ≤ 140737488355328 ∧ s.ids.length * 8 ≤ 140737488355328 ∧ (s.ms.length + [m].length) * 144 ≤ 140737488355328 ∧ (s.ids.length + [n].length) * 8 ≤ 140737488355328 from ⟨by omega, by omega, by simp; omega, by simp; omega⟩)
  clear hK hgl
  refine wpF_region (fun W => W.cell? (ad.add (i * 13)) = some (.int .i64 m.kind) ∧ W.cell? ⟨(ad.add (i * 13)).block, (ad.add (i * 13)).off + 1, none⟩ = some (.int .i64 m.from_) ∧ W.cell? ⟨(ad.add (i * 13)).block, (ad.add (i * 13)).off + 2, none⟩ = some (.int .i64 m.to_) ∧ W.cell? ⟨(ad.add (i * 13)).block, (ad.add (i * 13)).off + 3, none⟩ = some (.int .i64 m.term) ∧ W.cell? ⟨(ad.add (i * 13)).block, (ad.add (i * 13)).off + 4, none⟩ = some (.int .i64 m.index) ∧ W.cell? ⟨(ad.add (i * 13)).block, (ad.add (i * 13)).off + 5, none⟩ = some (.int .i64 m.logTerm) ∧ W.cell? ⟨(ad.add (i * 13)).block, (ad.add (i * 13)).off + 6, none⟩ = some (.int .i64 m.commit) ∧ W.cell? ⟨(ad.add (i * 13)).block, (ad.add (i * 13)).off + 7, none⟩ = some (.int .i64 m.round) ∧ W.cell? ⟨(ad.add (i * 13)).block, (ad.add (i * 13)).off + 8, none⟩ = some (.bool m.yes) ∧ W.cell? ⟨(ad.add (i * 13)).block, (ad.add (i * 13)).off + 9, none⟩ = some (.bool m.done) ∧ W.cell? ⟨(ad.add (i * 13)).block, (ad.add (i * 13)).off + 10, none⟩ = some (.slice Ae m.entries.length ce) ∧ W.cell? ⟨(ad.add (i * 13)).block, (ad.add (i * 13)).off + 11, none⟩ = some (.slice Av m.voters.length cv) ∧ W.cell? ⟨(ad.add (i * 13)).block, (ad.add (i * 13)).off + 12, none⟩ = some (.slice Ad m.data.length cd)) (fun _ => True) 99 15 (by kernel_rfl) (by kernel_rfl) ?_
  rw [← hw0]
  clear hw0
  refine wpF_take0 (i := 0) (v := ?v25) rfl (by kernel_rfl) (by kernel_rfl) (by kernel_rfl) (fun _ _ _ h => h) (by kernel_rfl) (Or.inl ⟨by rfl, ?hy25⟩) (HSE.out _ e0.out) (gone (by kernel_rfl)) ?rest25
  case hy25 => (intro W hSW; (try dsimp only at hSW); go_simp; (try with_reducible rfl))
  (try simp only [Act.put, List.setIfInBounds_toArray, List.set_cons_zero, List.set_cons_succ])
  refine wpF_take0 (i := 2) (v := ?v26) rfl (by kernel_rfl) (by kernel_rfl) (by kernel_rfl) (fun _ _ _ h => h) (by kernel_rfl) (Or.inl ⟨by rfl, ?hy26⟩) (HSE.out _ e0.out) (gone (by kernel_rfl)) ?rest26
  case hy26 => (intro W hSW; (try dsimp only at hSW); go_simp; (try with_reducible rfl))
  (try simp only [Act.put, List.setIfInBounds_toArray, List.set_cons_zero, List.set_cons_succ])
  refine wpF_take0 (i := 3) (v := ?v27) rfl (by kernel_rfl) (by kernel_rfl) (by kernel_rfl) (fun _ _ _ h => h) (by kernel_rfl) (Or.inl ⟨by rfl, ?hy27⟩) (HSE.out _ e0.out) (gone (by kernel_rfl)) ?rest27
  case hy27 => (intro W hSW; (try dsimp only at hSW); go_simp; (try with_reducible rfl))
  (try simp only [Act.put, List.setIfInBounds_toArray, List.set_cons_zero, List.set_cons_succ])
  refine wpF_take0 (i := 4) (v := ?v28) rfl (by kernel_rfl) (by kernel_rfl) (by kernel_rfl) (fun _ _ _ h => h) (by kernel_rfl) (Or.inl ⟨by rfl, ?hy28⟩) (HSE.out _ e0.out) (gone (by kernel_rfl)) ?rest28
  case hy28 => (intro W hSW; (try dsimp only at hSW); go_simp; (try with_reducible rfl))
  (try simp only [Act.put, List.setIfInBounds_toArray, List.set_cons_zero, List.set_cons_succ])
  refine wpF_take0 (i := 5) (v := ?v29) rfl (by kernel_rfl) (by kernel_rfl) (by kernel_rfl) (fun _ _ _ h => h) (by kernel_rfl) (Or.inl ⟨by rfl, ?hy29⟩) (HSE.out _ e0.out) (gone (by kernel_rfl)) ?rest29
  case hy29 => (intro W hSW; (try dsimp only at hSW); go_simp; (try with_reducible rfl))
  (try simp only [Act.put, List.setIfInBounds_toArray, List.set_cons_zero, List.set_cons_succ])
  refine wpF_take0 (i := 8) (v := ?v30) rfl (by kernel_rfl) (by kernel_rfl) (by kernel_rfl) (fun _ _ _ h => h) (by kernel_rfl) (Or.inl ⟨by rfl, ?hy30⟩) (HSE.out _ e0.out) (gone (by kernel_rfl)) ?rest30
  case hy30 => (intro W hSW; (try dsimp only at hSW); go_simp; (try with_reducible rfl))
  (try simp only [Act.put, List.setIfInBounds_toArray, List.set_cons_zero, List.set_cons_succ])
  refine wpF_take0 (i := 10) (v := ?v31) rfl (by kernel_rfl) (by kernel_rfl) (by kernel_rfl) (fun _ _ _ h => h) (by kernel_rfl) (Or.inl ⟨by rfl, ?hy31⟩) (HSE.out _ e0.out) (gone (by kernel_rfl)) ?rest31
  case hy31 => (intro W hSW; (try dsimp only at hSW); go_simp; (try with_reducible rfl))
  (try simp only [Act.put, List.setIfInBounds_toArray, List.set_cons_zero, List.set_cons_succ])
  refine wpF_step3 (i := 1) (j := 6) (k := 11) (by kernel_rfl) rfl rfl rfl (fun K hK => ?_) (fun K hK => ?_) (fun K hK => ?_)
  · go_simp
    refine (CloneMsg_calls w0 (· ≠ g) _ s.ms (ht.out.ext e0.out) HSZ.out.1).mono ?_
    rintro e w1 ⟨vC, rfl, ho, hx⟩
    have e1 := Lib.hid (e0.out.trans hx)
    have z1 := Lib.hid (show w0.heap.size ≤ w1.heap.size from hx.le)
    have qC := Lib.hid (show ∀ k, vC.ownBlock = some k → w0.heap.size ≤ k ∧ k < w1.heap.size from fun k hk => ⟨ho.from_ k hk, ho.lt k hk⟩)
    have oC1 := Lib.hid (show Ow kMsg 26 w1 w0.heap.size (· ≠ g) vC s.ms from ho.mono (fun b hb => by have h1 := HGL.out; have hz0 := z0.out; rcases hb with hb | hb; omega; exact hb))
    obtain ⟨AC, nC, cC_, ev⟩ : ∃ A n c, vC = .slice A n c := by obtain ⟨A, c, e, _⟩ := _root_.id oC1.out.rs; exact ⟨_, _, _, e⟩
    subst ev
    clear ho hx
    (try go_wp2_with fail)
    refine hK.out _ _ (HSE.out _ e1.out) (gone (by kernel_rfl)) ?_
    clear hK K
    (try simp only [Act.put, List.setIfInBounds_toArray, List.set_cons_zero, List.set_cons_succ])
    refine wpF_step2 (i := 6) (j := 11) (by kernel_rfl) rfl rfl (fun K hK => ?_) (fun K hK => ?_)
    · go_simp
      obtain ⟨w2, hw⟩ : ∃ W, W = w1.alloc (.cells (msgC m (.slice Ae m.entries.length ce) (.slice Av m.voters.length cv) (.slice Ad m.data.length cd)) 26) := ⟨_, rfl⟩
      have hx : Ext w1 w2 := by rw [hw]; exact (Ext.refl _).alloc _
      have tb := heap_new w1 _ rfl (.cells (msgC m (.slice Ae m.entries.length ce) (.slice Av m.voters.length cv) (.slice Ad m.data.length cd)) 26)
      rw [← hw] at tb
      have e2 := Lib.hid (e1.out.trans hx)
      have z2 := Lib.hid (show w1.heap.size ≤ w2.heap.size ∧ w1.heap.size < w2.heap.size from ⟨hx.le, blk_lt tb⟩)
      have oC2 := Lib.hid (oC1.out.ext hx)
      (try unfold msgC at hw)
      rw [← hw]
      clear hw hx
      refine hK.out _ _ (HSE.out _ e2.out) (gone (by kernel_rfl)) ?_
      clear hK K
      (try simp only [Act.put, List.setIfInBounds_toArray, List.set_cons_zero, List.set_cons_succ])
      obtain ⟨hL, hh⟩ : ∃ b, b = w1.heap.size := ⟨_, rfl⟩
      rw [← hh] at tb ⊢
      have HhL := Lib.hid hh
      clear hh
      have rL2 := Lib.hid (show Rs kMsg w2 (fun b => b = hL ∨ (b ≠ g ∧ b < w.heap.size)) (.slice (some ⟨hL, 0, none⟩) 1 1) [m] from Rs.one_msg tb (.inl rfl) (((hm.out.bound).ext e2.out).mono (fun b hb => .inr hb)))
      clear tb
      refine wpF_step2 (i := 7) (j := 11) (by kernel_rfl) rfl rfl (fun K hK => ?_) (fun K hK => ?_)
      · have hdist : ∀ b, (b = hL ∨ (b ≠ g ∧ b < w.heap.size)) → b ≠ g ∧ some b ≠ (.slice AC nC cC_ : Value).ownBlock := fun b hb => by
          have hz0 := z0.out; have hz1 := z1.out; have hz2 := z2.out; have hH := HhL.out; have h1 := HGL.out
          refine ⟨by rcases hb with hb | hb; omega; exact hb.1, fun e => ?_⟩
          have h8 := qC.out b e.symm
          rcases hb with hb | hb <;> omega
        refine step_append_Rs kMsg 121 rfl rfl (.tmp 115) (.tmp 120) 28 26 rfl tMsgs w0.heap.size _ _ s.ms [m] (· ≠ g) _ rfl rfl oC2.out rL2.out (fun y cs hy => kMsg.mono hdist hy) (fun b hb => by have hz0 := z0.out; have hz1 := z1.out; have hz2 := z2.out; have hH := HhL.out; have h1 := HGL.out; show b ≠ g; omega) HSZ.out.2.2.1 (by have hz0 := z0.out; have hz1 := z1.out; have hz2 := z2.out; have hH := HhL.out; have h1 := HGL.out; omega) ?_
        intro vT w3 ho hg _
        have e3 := Lib.hid (e2.out.grown hg (fun k hk => by have h8 := qC.out k hk; have hz0 := z0.out; have hz1 := z1.out; have hz2 := z2.out; have hH := HhL.out; have h1 := HGL.out; omega))
        have z3 := Lib.hid (show w2.heap.size ≤ w3.heap.size from hg.size)
        have rT3 := Lib.hid (show Rs kMsg w3 (fun b => b ≠ g ∧ b < w3.heap.size) vT (s.ms ++ [m]) from ho.rs.bound)
        obtain ⟨AT, nT, cT_, ev⟩ : ∃ A n c, vT = .slice A n c := by obtain ⟨A, c, e, _⟩ := _root_.id ho.rs; exact ⟨_, _, _, e⟩
        subst ev
        clear ho hg hdist
        refine hK.out _ _ (HSE.out _ e3.out) (gone (by kernel_rfl)) ?_
        clear hK K
        (try simp only [Act.put, List.setIfInBounds_toArray, List.set_cons_zero, List.set_cons_succ])
        refine wpF_step2 (i := 9) (j := 11) (by kernel_rfl) rfl rfl (fun K hK => ?_) (fun K hK => ?_)
        · go_simp
          refine (CloneI_calls w3 (· ≠ g) _ s.ids (hi.out.ext e3.out) HSZ.out.2.1).mono ?_
          rintro e w4 ⟨vD, rfl, ho, hx⟩
          have e4 := Lib.hid (e3.out.trans hx)
          have z4 := Lib.hid (show w3.heap.size ≤ w4.heap.size from hx.le)
          have rT4 := Lib.hid (rT3.out.ext hx)
          have qD := Lib.hid (show ∀ k, vD.ownBlock = some k → w3.heap.size ≤ k ∧ k < w4.heap.size from fun k hk => ⟨ho.from_ k hk, ho.lt k hk⟩)
          have oD4 := Lib.hid (show Ow kInt 3 w4 w3.heap.size (· ≠ g) vD s.ids from ho.mono (fun b hb => by have h1 := HGL.out; have hz0 := z0.out; have hz1 := z1.out; have hz2 := z2.out; have hz3 := z3.out; have h2 : w3.heap.size ≤ b := hb; omega))
          obtain ⟨AD, nD, cD_, ev⟩ : ∃ A n c, vD = .slice A n c := by obtain ⟨A, c, e, _⟩ := _root_.id oD4.out.rs; exact ⟨_, _, _, e⟩
          subst ev
          clear ho hx
          (try go_wp2_with fail)
          refine hK.out _ _ (HSE.out _ e4.out) (gone (by kernel_rfl)) ?_
          clear hK K
          (try simp only [Act.put, List.setIfInBounds_toArray, List.set_cons_zero, List.set_cons_succ])
          refine wpF_step (i := 11) (by kernel_rfl) rfl (fun K hK => ?_)
          go_simp
          obtain ⟨w5, hw⟩ : ∃ W, W = w4.alloc (.cells #[.int .i64 n] 3) := ⟨_, rfl⟩
          have hx : Ext w4 w5 := by rw [hw]; exact (Ext.refl _).alloc _
          have tb := heap_new w4 _ rfl (.cells #[.int .i64 n] 3)
          rw [← hw] at tb
          have e5 := Lib.hid (e4.out.trans hx)
          have z5 := Lib.hid (show w4.heap.size ≤ w5.heap.size ∧ w4.heap.size < w5.heap.size from ⟨hx.le, blk_lt tb⟩)
          have rT5 := Lib.hid (rT4.out.ext hx)
          have oD5 := Lib.hid (oD4.out.ext hx)
          (try unfold msgC at hw)
          rw [← hw]
          clear hw hx
          refine hK.out _ _ (HSE.out _ e5.out) (gone (by kernel_rfl)) ?_
          clear hK K
          (try simp only [Act.put, List.setIfInBounds_toArray, List.set_cons_zero, List.set_cons_succ])
          obtain ⟨hI, hh⟩ : ∃ b, b = w4.heap.size := ⟨_, rfl⟩
          rw [← hh] at tb ⊢
          have HhI := Lib.hid hh
          clear hh
          have tI5 := Lib.hid tb
          clear tb
          refine wpF_step (i := 12) (by kernel_rfl) rfl (fun K hK => ?_)
          refine step_append_Rs kInt 126 rfl rfl (.tmp 123) (.tmp 125) 23 3 rfl tInts w3.heap.size _ _ s.ids [n] (· ≠ g) (fun _ => True) rfl rfl oD5.out (Rs.one_intb tI5.out trivial hn) (fun _ _ h => h) (fun b hb => by have hz0 := z0.out; have hz1 := z1.out; have hz2 := z2.out; have hz3 := z3.out; have hz4 := z4.out; have hz5 := z5.out; have hJ := HhI.out; have h1 := HGL.out; show b ≠ g; omega) HSZ.out.2.2.2 (by have hz0 := z0.out; have hz1 := z1.out; have hz2 := z2.out; have hz3 := z3.out; have hz4 := z4.out; have hz5 := z5.out; have hJ := HhI.out; have h1 := HGL.out; omega) ?_
          intro vI w6 ho hg _
          have e6 := Lib.hid (e5.out.grown hg (fun k hk => by have h8 := qD.out k hk; have hz0 := z0.out; have hz1 := z1.out; have hz2 := z2.out; have hz3 := z3.out; have hz4 := z4.out; have hz5 := z5.out; have hJ := HhI.out; have h1 := HGL.out; omega))
          have z6 := Lib.hid (show w5.heap.size ≤ w6.heap.size from hg.size)
          have rT6 := Lib.hid (rT5.out.grown hg (fun k hk hb => by have h8 := qD.out k hk; have h9 := hb.2; have hz0 := z0.out; have hz1 := z1.out; have hz2 := z2.out; have hz3 := z3.out; have hz4 := z4.out; have hz5 := z5.out; have hJ := HhI.out; have h1 := HGL.out; omega))
          have rI6 := Lib.hid (show Rs kInt w6 (· ≠ g) vI (s.ids ++ [n]) from ho.rs)
          obtain ⟨AI, nI, cI_, ev⟩ : ∃ A n c, vI = .slice A n c := by obtain ⟨A, c, e, _⟩ := _root_.id ho.rs; exact ⟨_, _, _, e⟩
          subst ev
          clear ho hg
          refine hK.out _ _ (HSE.out _ e6.out) (gone (by kernel_rfl)) ?_
          clear hK K
          (try simp only [Act.put, List.setIfInBounds_toArray, List.set_cons_zero, List.set_cons_succ])
          refine wpF_take0 (i := 13) (v := ?v32) rfl (by kernel_rfl) (by kernel_rfl) (by kernel_rfl) (fun _ _ _ h => h) (by kernel_rfl) (Or.inl ⟨by rfl, ?hy32⟩) (HSE.out _ e6.out) (gone (by kernel_rfl)) ?rest32
          case hy32 => (intro W hSW; (try dsimp only at hSW); go_simp; (try with_reducible rfl))
          (try simp only [Act.put, List.setIfInBounds_toArray, List.set_cons_zero, List.set_cons_succ])
          refine wpF_take0 (i := 14) (v := ?v33) rfl (by kernel_rfl) (by kernel_rfl) (by kernel_rfl) (fun _ _ _ h => h) (by kernel_rfl) (Or.inl ⟨by rfl, ?hy33⟩) (HSE.out _ e6.out) (gone (by kernel_rfl)) ?rest33
          case hy33 => (intro W hSW; (try dsimp only at hSW); go_simp; (try with_reducible rfl))
          (try simp only [Act.put, List.setIfInBounds_toArray, List.set_cons_zero, List.set_cons_succ])
          refine wpF_done (by kernel_rfl) ?_ _
          refine NoPanic.normal ?_
          exact hK2.out _ _ _ _ _ _ _ _ _ _ _ _ _ _ _ _  (Lib.hid ⟨rT6.out.mono (fun b hb => hb.1), rI6.out, e6.out⟩)
        · go_simp
          obtain ⟨w7, hw⟩ : ∃ W, W = w3.alloc (.cells #[.int .i64 n] 3) := ⟨_, rfl⟩
          have hx : Ext w3 w7 := by rw [hw]; exact (Ext.refl _).alloc _
          have tb := heap_new w3 _ rfl (.cells #[.int .i64 n] 3)
          rw [← hw] at tb
          have e7 := Lib.hid (e3.out.trans hx)
          have z7 := Lib.hid (show w3.heap.size ≤ w7.heap.size ∧ w3.heap.size < w7.heap.size from ⟨hx.le, blk_lt tb⟩)
          have rT7 := Lib.hid (rT3.out.ext hx)
          (try unfold msgC at hw)
          rw [← hw]
          clear hw hx
          refine hK.out _ _ (HSE.out _ e7.out) (gone (by kernel_rfl)) ?_
          clear hK K
          (try simp only [Act.put, List.setIfInBounds_toArray, List.set_cons_zero, List.set_cons_succ])
          obtain ⟨hI, hh⟩ : ∃ b, b = w3.heap.size := ⟨_, rfl⟩
          rw [← hh] at tb ⊢
          have HhI := Lib.hid hh
          clear hh
          have tI7 := Lib.hid tb
          clear tb
          refine wpF_step (i := 9) (by kernel_rfl) rfl (fun K hK => ?_)
          go_simp
          refine (CloneI_calls w7 (· ≠ g) _ s.ids (hi.out.ext e7.out) HSZ.out.2.1).mono ?_
          rintro e w8 ⟨vD, rfl, ho, hx⟩
          have e8 := Lib.hid (e7.out.trans hx)
          have z8 := Lib.hid (show w7.heap.size ≤ w8.heap.size from hx.le)
          have tI8 := Lib.hid (blk_ext tI7.out hx)
          have rT8 := Lib.hid (rT7.out.ext hx)
          have qD := Lib.hid (show ∀ k, vD.ownBlock = some k → w7.heap.size ≤ k ∧ k < w8.heap.size from fun k hk => ⟨ho.from_ k hk, ho.lt k hk⟩)
          have oD8 := Lib.hid (show Ow kInt 3 w8 w7.heap.size (· ≠ g) vD s.ids from ho.mono (fun b hb => by have h1 := HGL.out; have hz0 := z0.out; have hz1 := z1.out; have hz2 := z2.out; have hz3 := z3.out; have hz7 := z7.out; have h2 : w7.heap.size ≤ b := hb; omega))
          obtain ⟨AD, nD, cD_, ev⟩ : ∃ A n c, vD = .slice A n c := by obtain ⟨A, c, e, _⟩ := _root_.id oD8.out.rs; exact ⟨_, _, _, e⟩
          subst ev
          clear ho hx
          (try go_wp2_with fail)
          refine hK.out _ _ (HSE.out _ e8.out) (gone (by kernel_rfl)) ?_
          clear hK K
          (try simp only [Act.put, List.setIfInBounds_toArray, List.set_cons_zero, List.set_cons_succ])
          refine wpF_step (i := 12) (by kernel_rfl) rfl (fun K hK => ?_)
          refine step_append_Rs kInt 126 rfl rfl (.tmp 123) (.tmp 125) 23 3 rfl tInts w7.heap.size _ _ s.ids [n] (· ≠ g) (fun _ => True) rfl rfl oD8.out (Rs.one_intb tI8.out trivial hn) (fun _ _ h => h) (fun b hb => by have hz0 := z0.out; have hz1 := z1.out; have hz2 := z2.out; have hz3 := z3.out; have hz7 := z7.out; have hz8 := z8.out; have hJ := HhI.out; have h1 := HGL.out; show b ≠ g; omega) HSZ.out.2.2.2 (by have hz0 := z0.out; have hz1 := z1.out; have hz2 := z2.out; have hz3 := z3.out; have hz7 := z7.out; have hz8 := z8.out; have hJ := HhI.out; have h1 := HGL.out; omega) ?_
          intro vI w9 ho hg _
          have e9 := Lib.hid (e8.out.grown hg (fun k hk => by have h8 := qD.out k hk; have hz0 := z0.out; have hz1 := z1.out; have hz2 := z2.out; have hz3 := z3.out; have hz7 := z7.out; have hz8 := z8.out; have hJ := HhI.out; have h1 := HGL.out; omega))
          have z9 := Lib.hid (show w8.heap.size ≤ w9.heap.size from hg.size)
          have rT9 := Lib.hid (rT8.out.grown hg (fun k hk hb => by have h8 := qD.out k hk; have h9 := hb.2; have hz0 := z0.out; have hz1 := z1.out; have hz2 := z2.out; have hz3 := z3.out; have hz7 := z7.out; have hz8 := z8.out; have hJ := HhI.out; have h1 := HGL.out; omega))
          have rI9 := Lib.hid (show Rs kInt w9 (· ≠ g) vI (s.ids ++ [n]) from ho.rs)
          obtain ⟨AI, nI, cI_, ev⟩ : ∃ A n c, vI = .slice A n c := by obtain ⟨A, c, e, _⟩ := _root_.id ho.rs; exact ⟨_, _, _, e⟩
          subst ev
          clear ho hg
          refine hK.out _ _ (HSE.out _ e9.out) (gone (by kernel_rfl)) ?_
          clear hK K
          (try simp only [Act.put, List.setIfInBounds_toArray, List.set_cons_zero, List.set_cons_succ])
          refine wpF_take0 (i := 13) (v := ?v34) rfl (by kernel_rfl) (by kernel_rfl) (by kernel_rfl) (fun _ _ _ h => h) (by kernel_rfl) (Or.inl ⟨by rfl, ?hy34⟩) (HSE.out _ e9.out) (gone (by kernel_rfl)) ?rest34
          case hy34 => (intro W hSW; (try dsimp only at hSW); go_simp; (try with_reducible rfl))
          (try simp only [Act.put, List.setIfInBounds_toArray, List.set_cons_zero, List.set_cons_succ])
          refine wpF_take0 (i := 14) (v := ?v35) rfl (by kernel_rfl) (by kernel_rfl) (by kernel_rfl) (fun _ _ _ h => h) (by kernel_rfl) (Or.inl ⟨by rfl, ?hy35⟩) (HSE.out _ e9.out) (gone (by kernel_rfl)) ?rest35
          case hy35 => (intro W hSW; (try dsimp only at hSW); go_simp; (try with_reducible rfl))
          (try simp only [Act.put, List.setIfInBounds_toArray, List.set_cons_zero, List.set_cons_succ])
          refine wpF_done (by kernel_rfl) ?_ _
          refine NoPanic.normal ?_
          exact hK2.out _ _ _ _ _ _ _ _ _ _ _ _ _ _ _ _  (Lib.hid ⟨rT9.out.mono (fun b hb => hb.1), rI9.out, e9.out⟩)
      · go_simp
        obtain ⟨w10, hw⟩ : ∃ W, W = w2.alloc (.cells #[.int .i64 n] 3) := ⟨_, rfl⟩
        have hx : Ext w2 w10 := by rw [hw]; exact (Ext.refl _).alloc _
        have tb := heap_new w2 _ rfl (.cells #[.int .i64 n] 3)
        rw [← hw] at tb
        have e10 := Lib.hid (e2.out.trans hx)
        have z10 := Lib.hid (show w2.heap.size ≤ w10.heap.size ∧ w2.heap.size < w10.heap.size from ⟨hx.le, blk_lt tb⟩)
        have oC10 := Lib.hid (oC2.out.ext hx)
        have rL10 := Lib.hid (rL2.out.ext hx)
        (try unfold msgC at hw)
        rw [← hw]
        clear hw hx
        refine hK.out _ _ (HSE.out _ e10.out) (gone (by kernel_rfl)) ?_
        clear hK K
        (try simp only [Act.put, List.setIfInBounds_toArray, List.set_cons_zero, List.set_cons_succ])
        obtain ⟨hI, hh⟩ : ∃ b, b = w2.heap.size := ⟨_, rfl⟩
        rw [← hh] at tb ⊢
        have HhI := Lib.hid hh
        clear hh
        have tI10 := Lib.hid tb
        clear tb
        refine wpF_step (i := 7) (by kernel_rfl) rfl (fun K hK => ?_)
        have hdist : ∀ b, (b = hL ∨ (b ≠ g ∧ b < w.heap.size)) → b ≠ g ∧ some b ≠ (.slice AC nC cC_ : Value).ownBlock := fun b hb => by
          have hz0 := z0.out; have hz1 := z1.out; have hz2 := z2.out; have hz10 := z10.out; have hH := HhL.out; have h1 := HGL.out
          refine ⟨by rcases hb with hb | hb; omega; exact hb.1, fun e => ?_⟩
          have h8 := qC.out b e.symm
          rcases hb with hb | hb <;> omega
        refine step_append_Rs kMsg 121 rfl rfl (.tmp 115) (.tmp 120) 28 26 rfl tMsgs w0.heap.size _ _ s.ms [m] (· ≠ g) _ rfl rfl oC10.out rL10.out (fun y cs hy => kMsg.mono hdist hy) (fun b hb => by have hz0 := z0.out; have hz1 := z1.out; have hz2 := z2.out; have hz10 := z10.out; have hH := HhL.out; have h1 := HGL.out; show b ≠ g; omega) HSZ.out.2.2.1 (by have hz0 := z0.out; have hz1 := z1.out; have hz2 := z2.out; have hz10 := z10.out; have hH := HhL.out; have h1 := HGL.out; omega) ?_
        intro vT w11 ho hg _
        have e11 := Lib.hid (e10.out.grown hg (fun k hk => by have h8 := qC.out k hk; have hz0 := z0.out; have hz1 := z1.out; have hz2 := z2.out; have hz10 := z10.out; have hH := HhL.out; have h1 := HGL.out; omega))
        have z11 := Lib.hid (show w10.heap.size ≤ w11.heap.size from hg.size)
        have tI11 := Lib.hid ((hg.block hI (blk_lt tI10.out) (fun e => by have h8 := qC.out hI e.symm; have hJ := HhI.out; have hz0 := z0.out; have hz1 := z1.out; have hz2 := z2.out; have hz10 := z10.out; have hH := HhL.out; have h1 := HGL.out; omega)).trans tI10.out)
        have rT11 := Lib.hid (show Rs kMsg w11 (fun b => b ≠ g ∧ b < w11.heap.size) vT (s.ms ++ [m]) from ho.rs.bound)
        obtain ⟨AT, nT, cT_, ev⟩ : ∃ A n c, vT = .slice A n c := by obtain ⟨A, c, e, _⟩ := _root_.id ho.rs; exact ⟨_, _, _, e⟩
        subst ev
        clear ho hg hdist
        refine hK.out _ _ (HSE.out _ e11.out) (gone (by kernel_rfl)) ?_
        clear hK K
        (try simp only [Act.put, List.setIfInBounds_toArray, List.set_cons_zero, List.set_cons_succ])
        refine wpF_step (i := 9) (by kernel_rfl) rfl (fun K hK => ?_)
        go_simp
        refine (CloneI_calls w11 (· ≠ g) _ s.ids (hi.out.ext e11.out) HSZ.out.2.1).mono ?_
        rintro e w12 ⟨vD, rfl, ho, hx⟩
        have e12 := Lib.hid (e11.out.trans hx)
        have z12 := Lib.hid (show w11.heap.size ≤ w12.heap.size from hx.le)
        have tI12 := Lib.hid (blk_ext tI11.out hx)
        have rT12 := Lib.hid (rT11.out.ext hx)
        have qD := Lib.hid (show ∀ k, vD.ownBlock = some k → w11.heap.size ≤ k ∧ k < w12.heap.size from fun k hk => ⟨ho.from_ k hk, ho.lt k hk⟩)
        have oD12 := Lib.hid (show Ow kInt 3 w12 w11.heap.size (· ≠ g) vD s.ids from ho.mono (fun b hb => by have h1 := HGL.out; have hz0 := z0.out; have hz1 := z1.out; have hz2 := z2.out; have hz10 := z10.out; have hz11 := z11.out; have h2 : w11.heap.size ≤ b := hb; omega))
        obtain ⟨AD, nD, cD_, ev⟩ : ∃ A n c, vD = .slice A n c := by obtain ⟨A, c, e, _⟩ := _root_.id oD12.out.rs; exact ⟨_, _, _, e⟩
        subst ev
        clear ho hx
        (try go_wp2_with fail)
        refine hK.out _ _ (HSE.out _ e12.out) (gone (by kernel_rfl)) ?_
        clear hK K
        (try simp only [Act.put, List.setIfInBounds_toArray, List.set_cons_zero, List.set_cons_succ])
        refine wpF_step (i := 12) (by kernel_rfl) rfl (fun K hK => ?_)
        refine step_append_Rs kInt 126 rfl rfl (.tmp 123) (.tmp 125) 23 3 rfl tInts w11.heap.size _ _ s.ids [n] (· ≠ g) (fun _ => True) rfl rfl oD12.out (Rs.one_intb tI12.out trivial hn) (fun _ _ h => h) (fun b hb => by have hz0 := z0.out; have hz1 := z1.out; have hz2 := z2.out; have hz10 := z10.out; have hz11 := z11.out; have hz12 := z12.out; have hJ := HhI.out; have h1 := HGL.out; show b ≠ g; omega) HSZ.out.2.2.2 (by have hz0 := z0.out; have hz1 := z1.out; have hz2 := z2.out; have hz10 := z10.out; have hz11 := z11.out; have hz12 := z12.out; have hJ := HhI.out; have h1 := HGL.out; omega) ?_
        intro vI w13 ho hg _
        have e13 := Lib.hid (e12.out.grown hg (fun k hk => by have h8 := qD.out k hk; have hz0 := z0.out; have hz1 := z1.out; have hz2 := z2.out; have hz10 := z10.out; have hz11 := z11.out; have hz12 := z12.out; have hJ := HhI.out; have h1 := HGL.out; omega))
        have z13 := Lib.hid (show w12.heap.size ≤ w13.heap.size from hg.size)
        have rT13 := Lib.hid (rT12.out.grown hg (fun k hk hb => by have h8 := qD.out k hk; have h9 := hb.2; have hz0 := z0.out; have hz1 := z1.out; have hz2 := z2.out; have hz10 := z10.out; have hz11 := z11.out; have hz12 := z12.out; have hJ := HhI.out; have h1 := HGL.out; omega))
        have rI13 := Lib.hid (show Rs kInt w13 (· ≠ g) vI (s.ids ++ [n]) from ho.rs)
        obtain ⟨AI, nI, cI_, ev⟩ : ∃ A n c, vI = .slice A n c := by obtain ⟨A, c, e, _⟩ := _root_.id ho.rs; exact ⟨_, _, _, e⟩
        subst ev
        clear ho hg
        refine hK.out _ _ (HSE.out _ e13.out) (gone (by kernel_rfl)) ?_
        clear hK K
        (try simp only [Act.put, List.setIfInBounds_toArray, List.set_cons_zero, List.set_cons_succ])
        refine wpF_take0 (i := 13) (v := ?v36) rfl (by kernel_rfl) (by kernel_rfl) (by kernel_rfl) (fun _ _ _ h => h) (by kernel_rfl) (Or.inl ⟨by rfl, ?hy36⟩) (HSE.out _ e13.out) (gone (by kernel_rfl)) ?rest36
        case hy36 => (intro W hSW; (try dsimp only at hSW); go_simp; (try with_reducible rfl))
        (try simp only [Act.put, List.setIfInBounds_toArray, List.set_cons_zero, List.set_cons_succ])
        refine wpF_take0 (i := 14) (v := ?v37) rfl (by kernel_rfl) (by kernel_rfl) (by kernel_rfl) (fun _ _ _ h => h) (by kernel_rfl) (Or.inl ⟨by rfl, ?hy37⟩) (HSE.out _ e13.out) (gone (by kernel_rfl)) ?rest37
        case hy37 => (intro W hSW; (try dsimp only at hSW); go_simp; (try with_reducible rfl))
        (try simp only [Act.put, List.setIfInBounds_toArray, List.set_cons_zero, List.set_cons_succ])
        refine wpF_done (by kernel_rfl) ?_ _
        refine NoPanic.normal ?_
        exact hK2.out _ _ _ _ _ _ _ _ _ _ _ _ _ _ _ _  (Lib.hid ⟨rT13.out.mono (fun b hb => hb.1), rI13.out, e13.out⟩)
    · go_simp
      obtain ⟨w14, hw⟩ : ∃ W, W = w1.alloc (.cells #[.int .i64 n] 3) := ⟨_, rfl⟩
      have hx : Ext w1 w14 := by rw [hw]; exact (Ext.refl _).alloc _
      have tb := heap_new w1 _ rfl (.cells #[.int .i64 n] 3)
      rw [← hw] at tb
      have e14 := Lib.hid (e1.out.trans hx)
      have z14 := Lib.hid (show w1.heap.size ≤ w14.heap.size ∧ w1.heap.size < w14.heap.size from ⟨hx.le, blk_lt tb⟩)
      have oC14 := Lib.hid (oC1.out.ext hx)
      (try unfold msgC at hw)
      rw [← hw]
      clear hw hx
      refine hK.out _ _ (HSE.out _ e14.out) (gone (by kernel_rfl)) ?_
      clear hK K
      (try simp only [Act.put, List.setIfInBounds_toArray, List.set_cons_zero, List.set_cons_succ])
      obtain ⟨hI, hh⟩ : ∃ b, b = w1.heap.size := ⟨_, rfl⟩
      rw [← hh] at tb ⊢
      have HhI := Lib.hid hh
      clear hh
      have tI14 := Lib.hid tb
      clear tb
      refine wpF_step (i := 6) (by kernel_rfl) rfl (fun K hK => ?_)
      go_simp
      obtain ⟨w15, hw⟩ : ∃ W, W = w14.alloc (.cells (msgC m (.slice Ae m.entries.length ce) (.slice Av m.voters.length cv) (.slice Ad m.data.length cd)) 26) := ⟨_, rfl⟩
      have hx : Ext w14 w15 := by rw [hw]; exact (Ext.refl _).alloc _
      have tb := heap_new w14 _ rfl (.cells (msgC m (.slice Ae m.entries.length ce) (.slice Av m.voters.length cv) (.slice Ad m.data.length cd)) 26)
      rw [← hw] at tb
      have e15 := Lib.hid (e14.out.trans hx)
      have z15 := Lib.hid (show w14.heap.size ≤ w15.heap.size ∧ w14.heap.size < w15.heap.size from ⟨hx.le, blk_lt tb⟩)
      have oC15 := Lib.hid (oC14.out.ext hx)
      have tI15 := Lib.hid (blk_ext tI14.out hx)
      (try unfold msgC at hw)
      rw [← hw]
      clear hw hx
      refine hK.out _ _ (HSE.out _ e15.out) (gone (by kernel_rfl)) ?_
      clear hK K
      (try simp only [Act.put, List.setIfInBounds_toArray, List.set_cons_zero, List.set_cons_succ])
      obtain ⟨hL, hh⟩ : ∃ b, b = w14.heap.size := ⟨_, rfl⟩
      rw [← hh] at tb ⊢
      have HhL := Lib.hid hh
      clear hh
      have rL15 := Lib.hid (show Rs kMsg w15 (fun b => b = hL ∨ (b ≠ g ∧ b < w.heap.size)) (.slice (some ⟨hL, 0, none⟩) 1 1) [m] from Rs.one_msg tb (.inl rfl) (((hm.out.bound).ext e15.out).mono (fun b hb => .inr hb)))
      clear tb
      refine wpF_step (i := 7) (by kernel_rfl) rfl (fun K hK => ?_)
      have hdist : ∀ b, (b = hL ∨ (b ≠ g ∧ b < w.heap.size)) → b ≠ g ∧ some b ≠ (.slice AC nC cC_ : Value).ownBlock := fun b hb => by
        have hz0 := z0.out; have hz1 := z1.out; have hz14 := z14.out; have hz15 := z15.out; have hH := HhL.out; have h1 := HGL.out
        refine ⟨by rcases hb with hb | hb; omega; exact hb.1, fun e => ?_⟩
        have h8 := qC.out b e.symm
        rcases hb with hb | hb <;> omega
      refine step_append_Rs kMsg 121 rfl rfl (.tmp 115) (.tmp 120) 28 26 rfl tMsgs w0.heap.size _ _ s.ms [m] (· ≠ g) _ rfl rfl oC15.out rL15.out (fun y cs hy => kMsg.mono hdist hy) (fun b hb => by have hz0 := z0.out; have hz1 := z1.out; have hz14 := z14.out; have hz15 := z15.out; have hH := HhL.out; have h1 := HGL.out; show b ≠ g; omega) HSZ.out.2.2.1 (by have hz0 := z0.out; have hz1 := z1.out; have hz14 := z14.out; have hz15 := z15.out; have hH := HhL.out; have h1 := HGL.out; omega) ?_
      intro vT w16 ho hg _
      have e16 := Lib.hid (e15.out.grown hg (fun k hk => by have h8 := qC.out k hk; have hz0 := z0.out; have hz1 := z1.out; have hz14 := z14.out; have hz15 := z15.out; have hH := HhL.out; have h1 := HGL.out; omega))
      have z16 := Lib.hid (show w15.heap.size ≤ w16.heap.size from hg.size)
      have tI16 := Lib.hid ((hg.block hI (blk_lt tI15.out) (fun e => by have h8 := qC.out hI e.symm; have hJ := HhI.out; have hz0 := z0.out; have hz1 := z1.out; have hz14 := z14.out; have hz15 := z15.out; have hH := HhL.out; have h1 := HGL.out; omega)).trans tI15.out)
      have rT16 := Lib.hid (show Rs kMsg w16 (fun b => b ≠ g ∧ b < w16.heap.size) vT (s.ms ++ [m]) from ho.rs.bound)
      obtain ⟨AT, nT, cT_, ev⟩ : ∃ A n c, vT = .slice A n c := by obtain ⟨A, c, e, _⟩ := _root_.id ho.rs; exact ⟨_, _, _, e⟩
      subst ev
      clear ho hg hdist
      refine hK.out _ _ (HSE.out _ e16.out) (gone (by kernel_rfl)) ?_
      clear hK K
      (try simp only [Act.put, List.setIfInBounds_toArray, List.set_cons_zero, List.set_cons_succ])
      refine wpF_step (i := 9) (by kernel_rfl) rfl (fun K hK => ?_)
      go_simp
      refine (CloneI_calls w16 (· ≠ g) _ s.ids (hi.out.ext e16.out) HSZ.out.2.1).mono ?_
      rintro e w17 ⟨vD, rfl, ho, hx⟩
      have e17 := Lib.hid (e16.out.trans hx)
      have z17 := Lib.hid (show w16.heap.size ≤ w17.heap.size from hx.le)
      have tI17 := Lib.hid (blk_ext tI16.out hx)
      have rT17 := Lib.hid (rT16.out.ext hx)
      have qD := Lib.hid (show ∀ k, vD.ownBlock = some k → w16.heap.size ≤ k ∧ k < w17.heap.size from fun k hk => ⟨ho.from_ k hk, ho.lt k hk⟩)
      have oD17 := Lib.hid (show Ow kInt 3 w17 w16.heap.size (· ≠ g) vD s.ids from ho.mono (fun b hb => by have h1 := HGL.out; have hz0 := z0.out; have hz1 := z1.out; have hz14 := z14.out; have hz15 := z15.out; have hz16 := z16.out; have h2 : w16.heap.size ≤ b := hb; omega))
      obtain ⟨AD, nD, cD_, ev⟩ : ∃ A n c, vD = .slice A n c := by obtain ⟨A, c, e, _⟩ := _root_.id oD17.out.rs; exact ⟨_, _, _, e⟩
      subst ev
      clear ho hx
      (try go_wp2_with fail)
      refine hK.out _ _ (HSE.out _ e17.out) (gone (by kernel_rfl)) ?_
      clear hK K
      (try simp only [Act.put, List.setIfInBounds_toArray, List.set_cons_zero, List.set_cons_succ])
      refine wpF_step (i := 12) (by kernel_rfl) rfl (fun K hK => ?_)
      refine step_append_Rs kInt 126 rfl rfl (.tmp 123) (.tmp 125) 23 3 rfl tInts w16.heap.size _ _ s.ids [n] (· ≠ g) (fun _ => True) rfl rfl oD17.out (Rs.one_intb tI17.out trivial hn) (fun _ _ h => h) (fun b hb => by have hz0 := z0.out; have hz1 := z1.out; have hz14 := z14.out; have hz15 := z15.out; have hz16 := z16.out; have hz17 := z17.out; have hJ := HhI.out; have h1 := HGL.out; show b ≠ g; omega) HSZ.out.2.2.2 (by have hz0 := z0.out; have hz1 := z1.out; have hz14 := z14.out; have hz15 := z15.out; have hz16 := z16.out; have hz17 := z17.out; have hJ := HhI.out; have h1 := HGL.out; omega) ?_
      intro vI w18 ho hg _
      have e18 := Lib.hid (e17.out.grown hg (fun k hk => by have h8 := qD.out k hk; have hz0 := z0.out; have hz1 := z1.out; have hz14 := z14.out; have hz15 := z15.out; have hz16 := z16.out; have hz17 := z17.out; have hJ := HhI.out; have h1 := HGL.out; omega))
      have z18 := Lib.hid (show w17.heap.size ≤ w18.heap.size from hg.size)
      have rT18 := Lib.hid (rT17.out.grown hg (fun k hk hb => by have h8 := qD.out k hk; have h9 := hb.2; have hz0 := z0.out; have hz1 := z1.out; have hz14 := z14.out; have hz15 := z15.out; have hz16 := z16.out; have hz17 := z17.out; have hJ := HhI.out; have h1 := HGL.out; omega))
      have rI18 := Lib.hid (show Rs kInt w18 (· ≠ g) vI (s.ids ++ [n]) from ho.rs)
      obtain ⟨AI, nI, cI_, ev⟩ : ∃ A n c, vI = .slice A n c := by obtain ⟨A, c, e, _⟩ := _root_.id ho.rs; exact ⟨_, _, _, e⟩
      subst ev
      clear ho hg
      refine hK.out _ _ (HSE.out _ e18.out) (gone (by kernel_rfl)) ?_
      clear hK K
      (try simp only [Act.put, List.setIfInBounds_toArray, List.set_cons_zero, List.set_cons_succ])
      refine wpF_take0 (i := 13) (v := ?v38) rfl (by kernel_rfl) (by kernel_rfl) (by kernel_rfl) (fun _ _ _ h => h) (by kernel_rfl) (Or.inl ⟨by rfl, ?hy38⟩) (HSE.out _ e18.out) (gone (by kernel_rfl)) ?rest38
      case hy38 => (intro W hSW; (try dsimp only at hSW); go_simp; (try with_reducible rfl))
      (try simp only [Act.put, List.setIfInBounds_toArray, List.set_cons_zero, List.set_cons_succ])
      refine wpF_take0 (i := 14) (v := ?v39) rfl (by kernel_rfl) (by kernel_rfl) (by kernel_rfl) (fun _ _ _ h => h) (by kernel_rfl) (Or.inl ⟨by rfl, ?hy39⟩) (HSE.out _ e18.out) (gone (by kernel_rfl)) ?rest39
      case hy39 => (intro W hSW; (try dsimp only at hSW); go_simp; (try with_reducible rfl))
      (try simp only [Act.put, List.setIfInBounds_toArray, List.set_cons_zero, List.set_cons_succ])
      refine wpF_done (by kernel_rfl) ?_ _
      refine NoPanic.normal ?_
      exact hK2.out _ _ _ _ _ _ _ _ _ _ _ _ _ _ _ _  (Lib.hid ⟨rT18.out.mono (fun b hb => hb.1), rI18.out, e18.out⟩)
  · go_simp
    obtain ⟨w19, hw⟩ : ∃ W, W = w0.alloc (.cells (msgC m (.slice Ae m.entries.length ce) (.slice Av m.voters.length cv) (.slice Ad m.data.length cd)) 26) := ⟨_, rfl⟩
    have hx : Ext w0 w19 := by rw [hw]; exact (Ext.refl _).alloc _
    have tb := heap_new w0 _ rfl (.cells (msgC m (.slice Ae m.entries.length ce) (.slice Av m.voters.length cv) (.slice Ad m.data.length cd)) 26)
    rw [← hw] at tb
    have e19 := Lib.hid (e0.out.trans hx)
    have z19 := Lib.hid (show w0.heap.size ≤ w19.heap.size ∧ w0.heap.size < w19.heap.size from ⟨hx.le, blk_lt tb⟩)
    (try unfold msgC at hw)
    rw [← hw]
    clear hw hx
    refine hK.out _ _ (HSE.out _ e19.out) (gone (by kernel_rfl)) ?_
    clear hK K
    (try simp only [Act.put, List.setIfInBounds_toArray, List.set_cons_zero, List.set_cons_succ])
    obtain ⟨hL, hh⟩ : ∃ b, b = w0.heap.size := ⟨_, rfl⟩
    rw [← hh] at tb ⊢
    have HhL := Lib.hid hh
    clear hh
    have rL19 := Lib.hid (show Rs kMsg w19 (fun b => b = hL ∨ (b ≠ g ∧ b < w.heap.size)) (.slice (some ⟨hL, 0, none⟩) 1 1) [m] from Rs.one_msg tb (.inl rfl) (((hm.out.bound).ext e19.out).mono (fun b hb => .inr hb)))
    clear tb
    refine wpF_step2 (i := 1) (j := 11) (by kernel_rfl) rfl rfl (fun K hK => ?_) (fun K hK => ?_)
    · go_simp
      refine (CloneMsg_calls w19 (· ≠ g) _ s.ms (ht.out.ext e19.out) HSZ.out.1).mono ?_
      rintro e w20 ⟨vC, rfl, ho, hx⟩
      have e20 := Lib.hid (e19.out.trans hx)
      have z20 := Lib.hid (show w19.heap.size ≤ w20.heap.size from hx.le)
      have rL20 := Lib.hid (rL19.out.ext hx)
      have qC := Lib.hid (show ∀ k, vC.ownBlock = some k → w19.heap.size ≤ k ∧ k < w20.heap.size from fun k hk => ⟨ho.from_ k hk, ho.lt k hk⟩)
      have oC20 := Lib.hid (show Ow kMsg 26 w20 w19.heap.size (· ≠ g) vC s.ms from ho.mono (fun b hb => by have h1 := HGL.out; have hz0 := z0.out; have hz19 := z19.out; rcases hb with hb | hb; omega; exact hb))
      obtain ⟨AC, nC, cC_, ev⟩ : ∃ A n c, vC = .slice A n c := by obtain ⟨A, c, e, _⟩ := _root_.id oC20.out.rs; exact ⟨_, _, _, e⟩
      subst ev
      clear ho hx
      (try go_wp2_with fail)
      refine hK.out _ _ (HSE.out _ e20.out) (gone (by kernel_rfl)) ?_
      clear hK K
      (try simp only [Act.put, List.setIfInBounds_toArray, List.set_cons_zero, List.set_cons_succ])
      refine wpF_step2 (i := 7) (j := 11) (by kernel_rfl) rfl rfl (fun K hK => ?_) (fun K hK => ?_)
      · have hdist : ∀ b, (b = hL ∨ (b ≠ g ∧ b < w.heap.size)) → b ≠ g ∧ some b ≠ (.slice AC nC cC_ : Value).ownBlock := fun b hb => by
          have hz0 := z0.out; have hz19 := z19.out; have hz20 := z20.out; have hH := HhL.out; have h1 := HGL.out
          refine ⟨by rcases hb with hb | hb; omega; exact hb.1, fun e => ?_⟩
          have h8 := qC.out b e.symm
          rcases hb with hb | hb <;> omega
        refine step_append_Rs kMsg 121 rfl rfl (.tmp 115) (.tmp 120) 28 26 rfl tMsgs w19.heap.size _ _ s.ms [m] (· ≠ g) _ rfl rfl oC20.out rL20.out (fun y cs hy => kMsg.mono hdist hy) (fun b hb => by have hz0 := z0.out; have hz19 := z19.out; have hz20 := z20.out; have hH := HhL.out; have h1 := HGL.out; show b ≠ g; omega) HSZ.out.2.2.1 (by have hz0 := z0.out; have hz19 := z19.out; have hz20 := z20.out; have hH := HhL.out; have h1 := HGL.out; omega) ?_
        intro vT w21 ho hg _
        have e21 := Lib.hid (e20.out.grown hg (fun k hk => by have h8 := qC.out k hk; have hz0 := z0.out; have hz19 := z19.out; have hz20 := z20.out; have hH := HhL.out; have h1 := HGL.out; omega))
        have z21 := Lib.hid (show w20.heap.size ≤ w21.heap.size from hg.size)
        have rT21 := Lib.hid (show Rs kMsg w21 (fun b => b ≠ g ∧ b < w21.heap.size) vT (s.ms ++ [m]) from ho.rs.bound)
        obtain ⟨AT, nT, cT_, ev⟩ : ∃ A n c, vT = .slice A n c := by obtain ⟨A, c, e, _⟩ := _root_.id ho.rs; exact ⟨_, _, _, e⟩
        subst ev
        clear ho hg hdist
        refine hK.out _ _ (HSE.out _ e21.out) (gone (by kernel_rfl)) ?_
        clear hK K
        (try simp only [Act.put, List.setIfInBounds_toArray, List.set_cons_zero, List.set_cons_succ])
        refine wpF_step2 (i := 9) (j := 11) (by kernel_rfl) rfl rfl (fun K hK => ?_) (fun K hK => ?_)
        · go_simp
          refine (CloneI_calls w21 (· ≠ g) _ s.ids (hi.out.ext e21.out) HSZ.out.2.1).mono ?_
          rintro e w22 ⟨vD, rfl, ho, hx⟩
          have e22 := Lib.hid (e21.out.trans hx)
          have z22 := Lib.hid (show w21.heap.size ≤ w22.heap.size from hx.le)
          have rT22 := Lib.hid (rT21.out.ext hx)
          have qD := Lib.hid (show ∀ k, vD.ownBlock = some k → w21.heap.size ≤ k ∧ k < w22.heap.size from fun k hk => ⟨ho.from_ k hk, ho.lt k hk⟩)
          have oD22 := Lib.hid (show Ow kInt 3 w22 w21.heap.size (· ≠ g) vD s.ids from ho.mono (fun b hb => by have h1 := HGL.out; have hz0 := z0.out; have hz19 := z19.out; have hz20 := z20.out; have hz21 := z21.out; have h2 : w21.heap.size ≤ b := hb; omega))
          obtain ⟨AD, nD, cD_, ev⟩ : ∃ A n c, vD = .slice A n c := by obtain ⟨A, c, e, _⟩ := _root_.id oD22.out.rs; exact ⟨_, _, _, e⟩
          subst ev
          clear ho hx
          (try go_wp2_with fail)
          refine hK.out _ _ (HSE.out _ e22.out) (gone (by kernel_rfl)) ?_
          clear hK K
          (try simp only [Act.put, List.setIfInBounds_toArray, List.set_cons_zero, List.set_cons_succ])
          refine wpF_step (i := 11) (by kernel_rfl) rfl (fun K hK => ?_)
          go_simp
          obtain ⟨w23, hw⟩ : ∃ W, W = w22.alloc (.cells #[.int .i64 n] 3) := ⟨_, rfl⟩
          have hx : Ext w22 w23 := by rw [hw]; exact (Ext.refl _).alloc _
          have tb := heap_new w22 _ rfl (.cells #[.int .i64 n] 3)
          rw [← hw] at tb
          have e23 := Lib.hid (e22.out.trans hx)
          have z23 := Lib.hid (show w22.heap.size ≤ w23.heap.size ∧ w22.heap.size < w23.heap.size from ⟨hx.le, blk_lt tb⟩)
          have rT23 := Lib.hid (rT22.out.ext hx)
          have oD23 := Lib.hid (oD22.out.ext hx)
          (try unfold msgC at hw)
          rw [← hw]
          clear hw hx
          refine hK.out _ _ (HSE.out _ e23.out) (gone (by kernel_rfl)) ?_
          clear hK K
          (try simp only [Act.put, List.setIfInBounds_toArray, List.set_cons_zero, List.set_cons_succ])
          obtain ⟨hI, hh⟩ : ∃ b, b = w22.heap.size := ⟨_, rfl⟩
          rw [← hh] at tb ⊢
          have HhI := Lib.hid hh
          clear hh
          have tI23 := Lib.hid tb
          clear tb
          refine wpF_step (i := 12) (by kernel_rfl) rfl (fun K hK => ?_)
          refine step_append_Rs kInt 126 rfl rfl (.tmp 123) (.tmp 125) 23 3 rfl tInts w21.heap.size _ _ s.ids [n] (· ≠ g) (fun _ => True) rfl rfl oD23.out (Rs.one_intb tI23.out trivial hn) (fun _ _ h => h) (fun b hb => by have hz0 := z0.out; have hz19 := z19.out; have hz20 := z20.out; have hz21 := z21.out; have hz22 := z22.out; have hz23 := z23.out; have hJ := HhI.out; have h1 := HGL.out; show b ≠ g; omega) HSZ.out.2.2.2 (by have hz0 := z0.out; have hz19 := z19.out; have hz20 := z20.out; have hz21 := z21.out; have hz22 := z22.out; have hz23 := z23.out; have hJ := HhI.out; have h1 := HGL.out; omega) ?_
          intro vI w24 ho hg _
          have e24 := Lib.hid (e23.out.grown hg (fun k hk => by have h8 := qD.out k hk; have hz0 := z0.out; have hz19 := z19.out; have hz20 := z20.out; have hz21 := z21.out; have hz22 := z22.out; have hz23 := z23.out; have hJ := HhI.out; have h1 := HGL.out; omega))
          have z24 := Lib.hid (show w23.heap.size ≤ w24.heap.size from hg.size)
          have rT24 := Lib.hid (rT23.out.grown hg (fun k hk hb => by have h8 := qD.out k hk; have h9 := hb.2; have hz0 := z0.out; have hz19 := z19.out; have hz20 := z20.out; have hz21 := z21.out; have hz22 := z22.out; have hz23 := z23.out; have hJ := HhI.out; have h1 := HGL.out; omega))
          have rI24 := Lib.hid (show Rs kInt w24 (· ≠ g) vI (s.ids ++ [n]) from ho.rs)
          obtain ⟨AI, nI, cI_, ev⟩ : ∃ A n c, vI = .slice A n c := by obtain ⟨A, c, e, _⟩ := _root_.id ho.rs; exact ⟨_, _, _, e⟩
          subst ev
          clear ho hg
          refine hK.out _ _ (HSE.out _ e24.out) (gone (by kernel_rfl)) ?_
          clear hK K
          (try simp only [Act.put, List.setIfInBounds_toArray, List.set_cons_zero, List.set_cons_succ])
          refine wpF_take0 (i := 13) (v := ?v40) rfl (by kernel_rfl) (by kernel_rfl) (by kernel_rfl) (fun _ _ _ h => h) (by kernel_rfl) (Or.inl ⟨by rfl, ?hy40⟩) (HSE.out _ e24.out) (gone (by kernel_rfl)) ?rest40
          case hy40 => (intro W hSW; (try dsimp only at hSW); go_simp; (try with_reducible rfl))
          (try simp only [Act.put, List.setIfInBounds_toArray, List.set_cons_zero, List.set_cons_succ])
          refine wpF_take0 (i := 14) (v := ?v41) rfl (by kernel_rfl) (by kernel_rfl) (by kernel_rfl) (fun _ _ _ h => h) (by kernel_rfl) (Or.inl ⟨by rfl, ?hy41⟩) (HSE.out _ e24.out) (gone (by kernel_rfl)) ?rest41
          case hy41 => (intro W hSW; (try dsimp only at hSW); go_simp; (try with_reducible rfl))
          (try simp only [Act.put, List.setIfInBounds_toArray, List.set_cons_zero, List.set_cons_succ])
          refine wpF_done (by kernel_rfl) ?_ _
          refine NoPanic.normal ?_
          exact hK2.out _ _ _ _ _ _ _ _ _ _ _ _ _ _ _ _  (Lib.hid ⟨rT24.out.mono (fun b hb => hb.1), rI24.out, e24.out⟩)
        · go_simp
          obtain ⟨w25, hw⟩ : ∃ W, W = w21.alloc (.cells #[.int .i64 n] 3) := ⟨_, rfl⟩
          have hx : Ext w21 w25 := by rw [hw]; exact (Ext.refl _).alloc _
          have tb := heap_new w21 _ rfl (.cells #[.int .i64 n] 3)
          rw [← hw] at tb
          have e25 := Lib.hid (e21.out.trans hx)
          have z25 := Lib.hid (show w21.heap.size ≤ w25.heap.size ∧ w21.heap.size < w25.heap.size from ⟨hx.le, blk_lt tb⟩)
          have rT25 := Lib.hid (rT21.out.ext hx)
          (try unfold msgC at hw)
          rw [← hw]
          clear hw hx
          refine hK.out _ _ (HSE.out _ e25.out) (gone (by kernel_rfl)) ?_
          clear hK K
          (try simp only [Act.put, List.setIfInBounds_toArray, List.set_cons_zero, List.set_cons_succ])
          obtain ⟨hI, hh⟩ : ∃ b, b = w21.heap.size := ⟨_, rfl⟩
          rw [← hh] at tb ⊢
          have HhI := Lib.hid hh
          clear hh
          have tI25 := Lib.hid tb
          clear tb
          refine wpF_step (i := 9) (by kernel_rfl) rfl (fun K hK => ?_)
          go_simp
          refine (CloneI_calls w25 (· ≠ g) _ s.ids (hi.out.ext e25.out) HSZ.out.2.1).mono ?_
          rintro e w26 ⟨vD, rfl, ho, hx⟩
          have e26 := Lib.hid (e25.out.trans hx)
          have z26 := Lib.hid (show w25.heap.size ≤ w26.heap.size from hx.le)
          have tI26 := Lib.hid (blk_ext tI25.out hx)
          have rT26 := Lib.hid (rT25.out.ext hx)
          have qD := Lib.hid (show ∀ k, vD.ownBlock = some k → w25.heap.size ≤ k ∧ k < w26.heap.size from fun k hk => ⟨ho.from_ k hk, ho.lt k hk⟩)
          have oD26 := Lib.hid (show Ow kInt 3 w26 w25.heap.size (· ≠ g) vD s.ids from ho.mono (fun b hb => by have h1 := HGL.out; have hz0 := z0.out; have hz19 := z19.out; have hz20 := z20.out; have hz21 := z21.out; have hz25 := z25.out; have h2 : w25.heap.size ≤ b := hb; omega))
          obtain ⟨AD, nD, cD_, ev⟩ : ∃ A n c, vD = .slice A n c := by obtain ⟨A, c, e, _⟩ := _root_.id oD26.out.rs; exact ⟨_, _, _, e⟩
          subst ev
          clear ho hx
          (try go_wp2_with fail)
          refine hK.out _ _ (HSE.out _ e26.out) (gone (by kernel_rfl)) ?_
          clear hK K
          (try simp only [Act.put, List.setIfInBounds_toArray, List.set_cons_zero, List.set_cons_succ])
          refine wpF_step (i := 12) (by kernel_rfl) rfl (fun K hK => ?_)
          refine step_append_Rs kInt 126 rfl rfl (.tmp 123) (.tmp 125) 23 3 rfl tInts w25.heap.size _ _ s.ids [n] (· ≠ g) (fun _ => True) rfl rfl oD26.out (Rs.one_intb tI26.out trivial hn) (fun _ _ h => h) (fun b hb => by have hz0 := z0.out; have hz19 := z19.out; have hz20 := z20.out; have hz21 := z21.out; have hz25 := z25.out; have hz26 := z26.out; have hJ := HhI.out; have h1 := HGL.out; show b ≠ g; omega) HSZ.out.2.2.2 (by have hz0 := z0.out; have hz19 := z19.out; have hz20 := z20.out; have hz21 := z21.out; have hz25 := z25.out; have hz26 := z26.out; have hJ := HhI.out; have h1 := HGL.out; omega) ?_
          intro vI w27 ho hg _
          have e27 := Lib.hid (e26.out.grown hg (fun k hk => by have h8 := qD.out k hk; have hz0 := z0.out; have hz19 := z19.out; have hz20 := z20.out; have hz21 := z21.out; have hz25 := z25.out; have hz26 := z26.out; have hJ := HhI.out; have h1 := HGL.out; omega))
          have z27 := Lib.hid (show w26.heap.size ≤ w27.heap.size from hg.size)
          have rT27 := Lib.hid (rT26.out.grown hg (fun k hk hb => by have h8 := qD.out k hk; have h9 := hb.2; have hz0 := z0.out; have hz19 := z19.out; have hz20 := z20.out; have hz21 := z21.out; have hz25 := z25.out; have hz26 := z26.out; have hJ := HhI.out; have h1 := HGL.out; omega))
          have rI27 := Lib.hid (show Rs kInt w27 (· ≠ g) vI (s.ids ++ [n]) from ho.rs)
          obtain ⟨AI, nI, cI_, ev⟩ : ∃ A n c, vI = .slice A n c := by obtain ⟨A, c, e, _⟩ := _root_.id ho.rs; exact ⟨_, _, _, e⟩
          subst ev
          clear ho hg
          refine hK.out _ _ (HSE.out _ e27.out) (gone (by kernel_rfl)) ?_
          clear hK K
          (try simp only [Act.put, List.setIfInBounds_toArray, List.set_cons_zero, List.set_cons_succ])
          refine wpF_take0 (i := 13) (v := ?v42) rfl (by kernel_rfl) (by kernel_rfl) (by kernel_rfl) (fun _ _ _ h => h) (by kernel_rfl) (Or.inl ⟨by rfl, ?hy42⟩) (HSE.out _ e27.out) (gone (by kernel_rfl)) ?rest42
          case hy42 => (intro W hSW; (try dsimp only at hSW); go_simp; (try with_reducible rfl))
          (try simp only [Act.put, List.setIfInBounds_toArray, List.set_cons_zero, List.set_cons_succ])
          refine wpF_take0 (i := 14) (v := ?v43) rfl (by kernel_rfl) (by kernel_rfl) (by kernel_rfl) (fun _ _ _ h => h) (by kernel_rfl) (Or.inl ⟨by rfl, ?hy43⟩) (HSE.out _ e27.out) (gone (by kernel_rfl)) ?rest43
          case hy43 => (intro W hSW; (try dsimp only at hSW); go_simp; (try with_reducible rfl))
          (try simp only [Act.put, List.setIfInBounds_toArray, List.set_cons_zero, List.set_cons_succ])
          refine wpF_done (by kernel_rfl) ?_ _
          refine NoPanic.normal ?_
          exact hK2.out _ _ _ _ _ _ _ _ _ _ _ _ _ _ _ _  (Lib.hid ⟨rT27.out.mono (fun b hb => hb.1), rI27.out, e27.out⟩)
      · go_simp
        obtain ⟨w28, hw⟩ : ∃ W, W = w20.alloc (.cells #[.int .i64 n] 3) := ⟨_, rfl⟩
        have hx : Ext w20 w28 := by rw [hw]; exact (Ext.refl _).alloc _
        have tb := heap_new w20 _ rfl (.cells #[.int .i64 n] 3)
        rw [← hw] at tb
        have e28 := Lib.hid (e20.out.trans hx)
        have z28 := Lib.hid (show w20.heap.size ≤ w28.heap.size ∧ w20.heap.size < w28.heap.size from ⟨hx.le, blk_lt tb⟩)
        have oC28 := Lib.hid (oC20.out.ext hx)
        have rL28 := Lib.hid (rL20.out.ext hx)
        (try unfold msgC at hw)
        rw [← hw]
        clear hw hx
        refine hK.out _ _ (HSE.out _ e28.out) (gone (by kernel_rfl)) ?_
        clear hK K
        (try simp only [Act.put, List.setIfInBounds_toArray, List.set_cons_zero, List.set_cons_succ])
        obtain ⟨hI, hh⟩ : ∃ b, b = w20.heap.size := ⟨_, rfl⟩
        rw [← hh] at tb ⊢
        have HhI := Lib.hid hh
        clear hh
        have tI28 := Lib.hid tb
        clear tb
        refine wpF_step (i := 7) (by kernel_rfl) rfl (fun K hK => ?_)
        have hdist : ∀ b, (b = hL ∨ (b ≠ g ∧ b < w.heap.size)) → b ≠ g ∧ some b ≠ (.slice AC nC cC_ : Value).ownBlock := fun b hb => by
          have hz0 := z0.out; have hz19 := z19.out; have hz20 := z20.out; have hz28 := z28.out; have hH := HhL.out; have h1 := HGL.out
          refine ⟨by rcases hb with hb | hb; omega; exact hb.1, fun e => ?_⟩
          have h8 := qC.out b e.symm
          rcases hb with hb | hb <;> omega
        refine step_append_Rs kMsg 121 rfl rfl (.tmp 115) (.tmp 120) 28 26 rfl tMsgs w19.heap.size _ _ s.ms [m] (· ≠ g) _ rfl rfl oC28.out rL28.out (fun y cs hy => kMsg.mono hdist hy) (fun b hb => by have hz0 := z0.out; have hz19 := z19.out; have hz20 := z20.out; have hz28 := z28.out; have hH := HhL.out; have h1 := HGL.out; show b ≠ g; omega) HSZ.out.2.2.1 (by have hz0 := z0.out; have hz19 := z19.out; have hz20 := z20.out; have hz28 := z28.out; have hH := HhL.out; have h1 := HGL.out; omega) ?_
        intro vT w29 ho hg _
        have e29 := Lib.hid (e28.out.grown hg (fun k hk => by have h8 := qC.out k hk; have hz0 := z0.out; have hz19 := z19.out; have hz20 := z20.out; have hz28 := z28.out; have hH := HhL.out; have h1 := HGL.out; omega))
        have z29 := Lib.hid (show w28.heap.size ≤ w29.heap.size from hg.size)
        have tI29 := Lib.hid ((hg.block hI (blk_lt tI28.out) (fun e => by have h8 := qC.out hI e.symm; have hJ := HhI.out; have hz0 := z0.out; have hz19 := z19.out; have hz20 := z20.out; have hz28 := z28.out; have hH := HhL.out; have h1 := HGL.out; omega)).trans tI28.out)
        have rT29 := Lib.hid (show Rs kMsg w29 (fun b => b ≠ g ∧ b < w29.heap.size) vT (s.ms ++ [m]) from ho.rs.bound)
        obtain ⟨AT, nT, cT_, ev⟩ : ∃ A n c, vT = .slice A n c := by obtain ⟨A, c, e, _⟩ := _root_.id ho.rs; exact ⟨_, _, _, e⟩
        subst ev
        clear ho hg hdist
        refine hK.out _ _ (HSE.out _ e29.out) (gone (by kernel_rfl)) ?_
        clear hK K
        (try simp only [Act.put, List.setIfInBounds_toArray, List.set_cons_zero, List.set_cons_succ])
        refine wpF_step (i := 9) (by kernel_rfl) rfl (fun K hK => ?_)
        go_simp
        refine (CloneI_calls w29 (· ≠ g) _ s.ids (hi.out.ext e29.out) HSZ.out.2.1).mono ?_
        rintro e w30 ⟨vD, rfl, ho, hx⟩
        have e30 := Lib.hid (e29.out.trans hx)
        have z30 := Lib.hid (show w29.heap.size ≤ w30.heap.size from hx.le)
        have tI30 := Lib.hid (blk_ext tI29.out hx)
        have rT30 := Lib.hid (rT29.out.ext hx)
        have qD := Lib.hid (show ∀ k, vD.ownBlock = some k → w29.heap.size ≤ k ∧ k < w30.heap.size from fun k hk => ⟨ho.from_ k hk, ho.lt k hk⟩)
        have oD30 := Lib.hid (show Ow kInt 3 w30 w29.heap.size (· ≠ g) vD s.ids from ho.mono (fun b hb => by have h1 := HGL.out; have hz0 := z0.out; have hz19 := z19.out; have hz20 := z20.out; have hz28 := z28.out; have hz29 := z29.out; have h2 : w29.heap.size ≤ b := hb; omega))
        obtain ⟨AD, nD, cD_, ev⟩ : ∃ A n c, vD = .slice A n c := by obtain ⟨A, c, e, _⟩ := _root_.id oD30.out.rs; exact ⟨_, _, _, e⟩
        subst ev
        clear ho hx
        (try go_wp2_with fail)
        refine hK.out _ _ (HSE.out _ e30.out) (gone (by kernel_rfl)) ?_
        clear hK K
        (try simp only [Act.put, List.setIfInBounds_toArray, List.set_cons_zero, List.set_cons_succ])
        refine wpF_step (i := 12) (by kernel_rfl) rfl (fun K hK => ?_)
        refine step_append_Rs kInt 126 rfl rfl (.tmp 123) (.tmp 125) 23 3 rfl tInts w29.heap.size _ _ s.ids [n] (· ≠ g) (fun _ => True) rfl rfl oD30.out (Rs.one_intb tI30.out trivial hn) (fun _ _ h => h) (fun b hb => by have hz0 := z0.out; have hz19 := z19.out; have hz20 := z20.out; have hz28 := z28.out; have hz29 := z29.out; have hz30 := z30.out; have hJ := HhI.out; have h1 := HGL.out; show b ≠ g; omega) HSZ.out.2.2.2 (by have hz0 := z0.out; have hz19 := z19.out; have hz20 := z20.out; have hz28 := z28.out; have hz29 := z29.out; have hz30 := z30.out; have hJ := HhI.out; have h1 := HGL.out; omega) ?_
        intro vI w31 ho hg _
        have e31 := Lib.hid (e30.out.grown hg (fun k hk => by have h8 := qD.out k hk; have hz0 := z0.out; have hz19 := z19.out; have hz20 := z20.out; have hz28 := z28.out; have hz29 := z29.out; have hz30 := z30.out; have hJ := HhI.out; have h1 := HGL.out; omega))
        have z31 := Lib.hid (show w30.heap.size ≤ w31.heap.size from hg.size)
        have rT31 := Lib.hid (rT30.out.grown hg (fun k hk hb => by have h8 := qD.out k hk; have h9 := hb.2; have hz0 := z0.out; have hz19 := z19.out; have hz20 := z20.out; have hz28 := z28.out; have hz29 := z29.out; have hz30 := z30.out; have hJ := HhI.out; have h1 := HGL.out; omega))
        have rI31 := Lib.hid (show Rs kInt w31 (· ≠ g) vI (s.ids ++ [n]) from ho.rs)
        obtain ⟨AI, nI, cI_, ev⟩ : ∃ A n c, vI = .slice A n c := by obtain ⟨A, c, e, _⟩ := _root_.id ho.rs; exact ⟨_, _, _, e⟩
        subst ev
        clear ho hg
        refine hK.out _ _ (HSE.out _ e31.out) (gone (by kernel_rfl)) ?_
        clear hK K
        (try simp only [Act.put, List.setIfInBounds_toArray, List.set_cons_zero, List.set_cons_succ])
        refine wpF_take0 (i := 13) (v := ?v44) rfl (by kernel_rfl) (by kernel_rfl) (by kernel_rfl) (fun _ _ _ h => h) (by kernel_rfl) (Or.inl ⟨by rfl, ?hy44⟩) (HSE.out _ e31.out) (gone (by kernel_rfl)) ?rest44
        case hy44 => (intro W hSW; (try dsimp only at hSW); go_simp; (try with_reducible rfl))
        (try simp only [Act.put, List.setIfInBounds_toArray, List.set_cons_zero, List.set_cons_succ])
        refine wpF_take0 (i := 14) (v := ?v45) rfl (by kernel_rfl) (by kernel_rfl) (by kernel_rfl) (fun _ _ _ h => h) (by kernel_rfl) (Or.inl ⟨by rfl, ?hy45⟩) (HSE.out _ e31.out) (gone (by kernel_rfl)) ?rest45
        case hy45 => (intro W hSW; (try dsimp only at hSW); go_simp; (try with_reducible rfl))
        (try simp only [Act.put, List.setIfInBounds_toArray, List.set_cons_zero, List.set_cons_succ])
        refine wpF_done (by kernel_rfl) ?_ _
        refine NoPanic.normal ?_
        exact hK2.out _ _ _ _ _ _ _ _ _ _ _ _ _ _ _ _  (Lib.hid ⟨rT31.out.mono (fun b hb => hb.1), rI31.out, e31.out⟩)
    · go_simp
      obtain ⟨w32, hw⟩ : ∃ W, W = w19.alloc (.cells #[.int .i64 n] 3) := ⟨_, rfl⟩
      have hx : Ext w19 w32 := by rw [hw]; exact (Ext.refl _).alloc _
      have tb := heap_new w19 _ rfl (.cells #[.int .i64 n] 3)
      rw [← hw] at tb
      have e32 := Lib.hid (e19.out.trans hx)
      have z32 := Lib.hid (show w19.heap.size ≤ w32.heap.size ∧ w19.heap.size < w32.heap.size from ⟨hx.le, blk_lt tb⟩)
      have rL32 := Lib.hid (rL19.out.ext hx)
      (try unfold msgC at hw)
      rw [← hw]
      clear hw hx
      refine hK.out _ _ (HSE.out _ e32.out) (gone (by kernel_rfl)) ?_
      clear hK K
      (try simp only [Act.put, List.setIfInBounds_toArray, List.set_cons_zero, List.set_cons_succ])
      obtain ⟨hI, hh⟩ : ∃ b, b = w19.heap.size := ⟨_, rfl⟩
      rw [← hh] at tb ⊢
      have HhI := Lib.hid hh
      clear hh
      have tI32 := Lib.hid tb
      clear tb
      refine wpF_step (i := 1) (by kernel_rfl) rfl (fun K hK => ?_)
      go_simp
      refine (CloneMsg_calls w32 (· ≠ g) _ s.ms (ht.out.ext e32.out) HSZ.out.1).mono ?_
      rintro e w33 ⟨vC, rfl, ho, hx⟩
      have e33 := Lib.hid (e32.out.trans hx)
      have z33 := Lib.hid (show w32.heap.size ≤ w33.heap.size from hx.le)
      have rL33 := Lib.hid (rL32.out.ext hx)
      have tI33 := Lib.hid (blk_ext tI32.out hx)
      have qC := Lib.hid (show ∀ k, vC.ownBlock = some k → w32.heap.size ≤ k ∧ k < w33.heap.size from fun k hk => ⟨ho.from_ k hk, ho.lt k hk⟩)
      have oC33 := Lib.hid (show Ow kMsg 26 w33 w32.heap.size (· ≠ g) vC s.ms from ho.mono (fun b hb => by have h1 := HGL.out; have hz0 := z0.out; have hz19 := z19.out; have hz32 := z32.out; rcases hb with hb | hb; omega; exact hb))
      obtain ⟨AC, nC, cC_, ev⟩ : ∃ A n c, vC = .slice A n c := by obtain ⟨A, c, e, _⟩ := _root_.id oC33.out.rs; exact ⟨_, _, _, e⟩
      subst ev
      clear ho hx
      (try go_wp2_with fail)
      refine hK.out _ _ (HSE.out _ e33.out) (gone (by kernel_rfl)) ?_
      clear hK K
      (try simp only [Act.put, List.setIfInBounds_toArray, List.set_cons_zero, List.set_cons_succ])
      refine wpF_step (i := 7) (by kernel_rfl) rfl (fun K hK => ?_)
      have hdist : ∀ b, (b = hL ∨ (b ≠ g ∧ b < w.heap.size)) → b ≠ g ∧ some b ≠ (.slice AC nC cC_ : Value).ownBlock := fun b hb => by
        have hz0 := z0.out; have hz19 := z19.out; have hz32 := z32.out; have hz33 := z33.out; have hH := HhL.out; have h1 := HGL.out
        refine ⟨by rcases hb with hb | hb; omega; exact hb.1, fun e => ?_⟩
        have h8 := qC.out b e.symm
        rcases hb with hb | hb <;> omega
      refine step_append_Rs kMsg 121 rfl rfl (.tmp 115) (.tmp 120) 28 26 rfl tMsgs w32.heap.size _ _ s.ms [m] (· ≠ g) _ rfl rfl oC33.out rL33.out (fun y cs hy => kMsg.mono hdist hy) (fun b hb => by have hz0 := z0.out; have hz19 := z19.out; have hz32 := z32.out; have hz33 := z33.out; have hH := HhL.out; have h1 := HGL.out; show b ≠ g; omega) HSZ.out.2.2.1 (by have hz0 := z0.out; have hz19 := z19.out; have hz32 := z32.out; have hz33 := z33.out; have hH := HhL.out; have h1 := HGL.out; omega) ?_
      intro vT w34 ho hg _
      have e34 := Lib.hid (e33.out.grown hg (fun k hk => by have h8 := qC.out k hk; have hz0 := z0.out; have hz19 := z19.out; have hz32 := z32.out; have hz33 := z33.out; have hH := HhL.out; have h1 := HGL.out; omega))
      have z34 := Lib.hid (show w33.heap.size ≤ w34.heap.size from hg.size)
      have tI34 := Lib.hid ((hg.block hI (blk_lt tI33.out) (fun e => by have h8 := qC.out hI e.symm; have hJ := HhI.out; have hz0 := z0.out; have hz19 := z19.out; have hz32 := z32.out; have hz33 := z33.out; have hH := HhL.out; have h1 := HGL.out; omega)).trans tI33.out)
      have rT34 := Lib.hid (show Rs kMsg w34 (fun b => b ≠ g ∧ b < w34.heap.size) vT (s.ms ++ [m]) from ho.rs.bound)
      obtain ⟨AT, nT, cT_, ev⟩ : ∃ A n c, vT = .slice A n c := by obtain ⟨A, c, e, _⟩ := _root_.id ho.rs; exact ⟨_, _, _, e⟩
      subst ev
      clear ho hg hdist
      refine hK.out _ _ (HSE.out _ e34.out) (gone (by kernel_rfl)) ?_
      clear hK K
      (try simp only [Act.put, List.setIfInBounds_toArray, List.set_cons_zero, List.set_cons_succ])
      refine wpF_step (i := 9) (by kernel_rfl) rfl (fun K hK => ?_)
      go_simp
      refine (CloneI_calls w34 (· ≠ g) _ s.ids (hi.out.ext e34.out) HSZ.out.2.1).mono ?_
      rintro e w35 ⟨vD, rfl, ho, hx⟩
      have e35 := Lib.hid (e34.out.trans hx)
      have z35 := Lib.hid (show w34.heap.size ≤ w35.heap.size from hx.le)
      have tI35 := Lib.hid (blk_ext tI34.out hx)
      have rT35 := Lib.hid (rT34.out.ext hx)
      have qD := Lib.hid (show ∀ k, vD.ownBlock = some k → w34.heap.size ≤ k ∧ k < w35.heap.size from fun k hk => ⟨ho.from_ k hk, ho.lt k hk⟩)
      have oD35 := Lib.hid (show Ow kInt 3 w35 w34.heap.size (· ≠ g) vD s.ids from ho.mono (fun b hb => by have h1 := HGL.out; have hz0 := z0.out; have hz19 := z19.out; have hz32 := z32.out; have hz33 := z33.out; have hz34 := z34.out; have h2 : w34.heap.size ≤ b := hb; omega))
      obtain ⟨AD, nD, cD_, ev⟩ : ∃ A n c, vD = .slice A n c := by obtain ⟨A, c, e, _⟩ := _root_.id oD35.out.rs; exact ⟨_, _, _, e⟩
      subst ev
      clear ho hx
      (try go_wp2_with fail)
      refine hK.out _ _ (HSE.out _ e35.out) (gone (by kernel_rfl)) ?_
      clear hK K
      (try simp only [Act.put, List.setIfInBounds_toArray, List.set_cons_zero, List.set_cons_succ])
      refine wpF_step (i := 12) (by kernel_rfl) rfl (fun K hK => ?_)
      refine step_append_Rs kInt 126 rfl rfl (.tmp 123) (.tmp 125) 23 3 rfl tInts w34.heap.size _ _ s.ids [n] (· ≠ g) (fun _ => True) rfl rfl oD35.out (Rs.one_intb tI35.out trivial hn) (fun _ _ h => h) (fun b hb => by have hz0 := z0.out; have hz19 := z19.out; have hz32 := z32.out; have hz33 := z33.out; have hz34 := z34.out; have hz35 := z35.out; have hJ := HhI.out; have h1 := HGL.out; show b ≠ g; omega) HSZ.out.2.2.2 (by have hz0 := z0.out; have hz19 := z19.out; have hz32 := z32.out; have hz33 := z33.out; have hz34 := z34.out; have hz35 := z35.out; have hJ := HhI.out; have h1 := HGL.out; omega) ?_
      intro vI w36 ho hg _
      have e36 := Lib.hid (e35.out.grown hg (fun k hk => by have h8 := qD.out k hk; have hz0 := z0.out; have hz19 := z19.out; have hz32 := z32.out; have hz33 := z33.out; have hz34 := z34.out; have hz35 := z35.out; have hJ := HhI.out; have h1 := HGL.out; omega))
      have z36 := Lib.hid (show w35.heap.size ≤ w36.heap.size from hg.size)
      have rT36 := Lib.hid (rT35.out.grown hg (fun k hk hb => by have h8 := qD.out k hk; have h9 := hb.2; have hz0 := z0.out; have hz19 := z19.out; have hz32 := z32.out; have hz33 := z33.out; have hz34 := z34.out; have hz35 := z35.out; have hJ := HhI.out; have h1 := HGL.out; omega))
      have rI36 := Lib.hid (show Rs kInt w36 (· ≠ g) vI (s.ids ++ [n]) from ho.rs)
      obtain ⟨AI, nI, cI_, ev⟩ : ∃ A n c, vI = .slice A n c := by obtain ⟨A, c, e, _⟩ := _root_.id ho.rs; exact ⟨_, _, _, e⟩
      subst ev
      clear ho hg
      refine hK.out _ _ (HSE.out _ e36.out) (gone (by kernel_rfl)) ?_
      clear hK K
      (try simp only [Act.put, List.setIfInBounds_toArray, List.set_cons_zero, List.set_cons_succ])
      refine wpF_take0 (i := 13) (v := ?v46) rfl (by kernel_rfl) (by kernel_rfl) (by kernel_rfl) (fun _ _ _ h => h) (by kernel_rfl) (Or.inl ⟨by rfl, ?hy46⟩) (HSE.out _ e36.out) (gone (by kernel_rfl)) ?rest46
      case hy46 => (intro W hSW; (try dsimp only at hSW); go_simp; (try with_reducible rfl))
      (try simp only [Act.put, List.setIfInBounds_toArray, List.set_cons_zero, List.set_cons_succ])
      refine wpF_take0 (i := 14) (v := ?v47) rfl (by kernel_rfl) (by kernel_rfl) (by kernel_rfl) (fun _ _ _ h => h) (by kernel_rfl) (Or.inl ⟨by rfl, ?hy47⟩) (HSE.out _ e36.out) (gone (by kernel_rfl)) ?rest47
      case hy47 => (intro W hSW; (try dsimp only at hSW); go_simp; (try with_reducible rfl))
      (try simp only [Act.put, List.setIfInBounds_toArray, List.set_cons_zero, List.set_cons_succ])
      refine wpF_done (by kernel_rfl) ?_ _
      refine NoPanic.normal ?_
      exact hK2.out _ _ _ _ _ _ _ _ _ _ _ _ _ _ _ _  (Lib.hid ⟨rT36.out.mono (fun b hb => hb.1), rI36.out, e36.out⟩)
  · go_simp
    obtain ⟨w37, hw⟩ : ∃ W, W = w0.alloc (.cells #[.int .i64 n] 3) := ⟨_, rfl⟩
    have hx : Ext w0 w37 := by rw [hw]; exact (Ext.refl _).alloc _
    have tb := heap_new w0 _ rfl (.cells #[.int .i64 n] 3)
    rw [← hw] at tb
    have e37 := Lib.hid (e0.out.trans hx)
    have z37 := Lib.hid (show w0.heap.size ≤ w37.heap.size ∧ w0.heap.size < w37.heap.size from ⟨hx.le, blk_lt tb⟩)
    (try unfold msgC at hw)
    rw [← hw]
    clear hw hx
    refine hK.out _ _ (HSE.out _ e37.out) (gone (by kernel_rfl)) ?_
    clear hK K
    (try simp only [Act.put, List.setIfInBounds_toArray, List.set_cons_zero, List.set_cons_succ])
    obtain ⟨hI, hh⟩ : ∃ b, b = w0.heap.size := ⟨_, rfl⟩
    rw [← hh] at tb ⊢
    have HhI := Lib.hid hh
    clear hh
    have tI37 := Lib.hid tb
    clear tb
    refine wpF_step2 (i := 1) (j := 6) (by kernel_rfl) rfl rfl (fun K hK => ?_) (fun K hK => ?_)
    · go_simp
      refine (CloneMsg_calls w37 (· ≠ g) _ s.ms (ht.out.ext e37.out) HSZ.out.1).mono ?_
      rintro e w38 ⟨vC, rfl, ho, hx⟩
      have e38 := Lib.hid (e37.out.trans hx)
      have z38 := Lib.hid (show w37.heap.size ≤ w38.heap.size from hx.le)
      have tI38 := Lib.hid (blk_ext tI37.out hx)
      have qC := Lib.hid (show ∀ k, vC.ownBlock = some k → w37.heap.size ≤ k ∧ k < w38.heap.size from fun k hk => ⟨ho.from_ k hk, ho.lt k hk⟩)
      have oC38 := Lib.hid (show Ow kMsg 26 w38 w37.heap.size (· ≠ g) vC s.ms from ho.mono (fun b hb => by have h1 := HGL.out; have hz0 := z0.out; have hz37 := z37.out; rcases hb with hb | hb; omega; exact hb))
      obtain ⟨AC, nC, cC_, ev⟩ : ∃ A n c, vC = .slice A n c := by obtain ⟨A, c, e, _⟩ := _root_.id oC38.out.rs; exact ⟨_, _, _, e⟩
      subst ev
      clear ho hx
      (try go_wp2_with fail)
      refine hK.out _ _ (HSE.out _ e38.out) (gone (by kernel_rfl)) ?_
      clear hK K
      (try simp only [Act.put, List.setIfInBounds_toArray, List.set_cons_zero, List.set_cons_succ])
      refine wpF_step (i := 6) (by kernel_rfl) rfl (fun K hK => ?_)
      go_simp
      obtain ⟨w39, hw⟩ : ∃ W, W = w38.alloc (.cells (msgC m (.slice Ae m.entries.length ce) (.slice Av m.voters.length cv) (.slice Ad m.data.length cd)) 26) := ⟨_, rfl⟩
      have hx : Ext w38 w39 := by rw [hw]; exact (Ext.refl _).alloc _
      have tb := heap_new w38 _ rfl (.cells (msgC m (.slice Ae m.entries.length ce) (.slice Av m.voters.length cv) (.slice Ad m.data.length cd)) 26)
      rw [← hw] at tb
      have e39 := Lib.hid (e38.out.trans hx)
      have z39 := Lib.hid (show w38.heap.size ≤ w39.heap.size ∧ w38.heap.size < w39.heap.size from ⟨hx.le, blk_lt tb⟩)
      have oC39 := Lib.hid (oC38.out.ext hx)
      have tI39 := Lib.hid (blk_ext tI38.out hx)
      (try unfold msgC at hw)
      rw [← hw]
      clear hw hx
      refine hK.out _ _ (HSE.out _ e39.out) (gone (by kernel_rfl)) ?_
      clear hK K
      (try simp only [Act.put, List.setIfInBounds_toArray, List.set_cons_zero, List.set_cons_succ])
      obtain ⟨hL, hh⟩ : ∃ b, b = w38.heap.size := ⟨_, rfl⟩
      rw [← hh] at tb ⊢
      have HhL := Lib.hid hh
      clear hh
      have rL39 := Lib.hid (show Rs kMsg w39 (fun b => b = hL ∨ (b ≠ g ∧ b < w.heap.size)) (.slice (some ⟨hL, 0, none⟩) 1 1) [m] from Rs.one_msg tb (.inl rfl) (((hm.out.bound).ext e39.out).mono (fun b hb => .inr hb)))
      clear tb
      refine wpF_step (i := 7) (by kernel_rfl) rfl (fun K hK => ?_)
      have hdist : ∀ b, (b = hL ∨ (b ≠ g ∧ b < w.heap.size)) → b ≠ g ∧ some b ≠ (.slice AC nC cC_ : Value).ownBlock := fun b hb => by
        have hz0 := z0.out; have hz37 := z37.out; have hz38 := z38.out; have hz39 := z39.out; have hH := HhL.out; have h1 := HGL.out
        refine ⟨by rcases hb with hb | hb; omega; exact hb.1, fun e => ?_⟩
        have h8 := qC.out b e.symm
        rcases hb with hb | hb <;> omega
      refine step_append_Rs kMsg 121 rfl rfl (.tmp 115) (.tmp 120) 28 26 rfl tMsgs w37.heap.size _ _ s.ms [m] (· ≠ g) _ rfl rfl oC39.out rL39.out (fun y cs hy => kMsg.mono hdist hy) (fun b hb => by have hz0 := z0.out; have hz37 := z37.out; have hz38 := z38.out; have hz39 := z39.out; have hH := HhL.out; have h1 := HGL.out; show b ≠ g; omega) HSZ.out.2.2.1 (by have hz0 := z0.out; have hz37 := z37.out; have hz38 := z38.out; have hz39 := z39.out; have hH := HhL.out; have h1 := HGL.out; omega) ?_
      intro vT w40 ho hg _
      have e40 := Lib.hid (e39.out.grown hg (fun k hk => by have h8 := qC.out k hk; have hz0 := z0.out; have hz37 := z37.out; have hz38 := z38.out; have hz39 := z39.out; have hH := HhL.out; have h1 := HGL.out; omega))
      have z40 := Lib.hid (show w39.heap.size ≤ w40.heap.size from hg.size)
      have tI40 := Lib.hid ((hg.block hI (blk_lt tI39.out) (fun e => by have h8 := qC.out hI e.symm; have hJ := HhI.out; have hz0 := z0.out; have hz37 := z37.out; have hz38 := z38.out; have hz39 := z39.out; have hH := HhL.out; have h1 := HGL.out; omega)).trans tI39.out)
      have rT40 := Lib.hid (show Rs kMsg w40 (fun b => b ≠ g ∧ b < w40.heap.size) vT (s.ms ++ [m]) from ho.rs.bound)
      obtain ⟨AT, nT, cT_, ev⟩ : ∃ A n c, vT = .slice A n c := by obtain ⟨A, c, e, _⟩ := _root_.id ho.rs; exact ⟨_, _, _, e⟩
      subst ev
      clear ho hg hdist
      refine hK.out _ _ (HSE.out _ e40.out) (gone (by kernel_rfl)) ?_
      clear hK K
      (try simp only [Act.put, List.setIfInBounds_toArray, List.set_cons_zero, List.set_cons_succ])
      refine wpF_step (i := 9) (by kernel_rfl) rfl (fun K hK => ?_)
      go_simp
      refine (CloneI_calls w40 (· ≠ g) _ s.ids (hi.out.ext e40.out) HSZ.out.2.1).mono ?_
      rintro e w41 ⟨vD, rfl, ho, hx⟩
      have e41 := Lib.hid (e40.out.trans hx)
      have z41 := Lib.hid (show w40.heap.size ≤ w41.heap.size from hx.le)
      have tI41 := Lib.hid (blk_ext tI40.out hx)
      have rT41 := Lib.hid (rT40.out.ext hx)
      have qD := Lib.hid (show ∀ k, vD.ownBlock = some k → w40.heap.size ≤ k ∧ k < w41.heap.size from fun k hk => ⟨ho.from_ k hk, ho.lt k hk⟩)
      have oD41 := Lib.hid (show Ow kInt 3 w41 w40.heap.size (· ≠ g) vD s.ids from ho.mono (fun b hb => by have h1 := HGL.out; have hz0 := z0.out; have hz37 := z37.out; have hz38 := z38.out; have hz39 := z39.out; have hz40 := z40.out; have h2 : w40.heap.size ≤ b := hb; omega))
      obtain ⟨AD, nD, cD_, ev⟩ : ∃ A n c, vD = .slice A n c := by obtain ⟨A, c, e, _⟩ := _root_.id oD41.out.rs; exact ⟨_, _, _, e⟩
      subst ev
      clear ho hx
      (try go_wp2_with fail)
      refine hK.out _ _ (HSE.out _ e41.out) (gone (by kernel_rfl)) ?_
      clear hK K
      (try simp only [Act.put, List.setIfInBounds_toArray, List.set_cons_zero, List.set_cons_succ])
      refine wpF_step (i := 12) (by kernel_rfl) rfl (fun K hK => ?_)
      refine step_append_Rs kInt 126 rfl rfl (.tmp 123) (.tmp 125) 23 3 rfl tInts w40.heap.size _ _ s.ids [n] (· ≠ g) (fun _ => True) rfl rfl oD41.out (Rs.one_intb tI41.out trivial hn) (fun _ _ h => h) (fun b hb => by have hz0 := z0.out; have hz37 := z37.out; have hz38 := z38.out; have hz39 := z39.out; have hz40 := z40.out; have hz41 := z41.out; have hJ := HhI.out; have h1 := HGL.out; show b ≠ g; omega) HSZ.out.2.2.2 (by have hz0 := z0.out; have hz37 := z37.out; have hz38 := z38.out; have hz39 := z39.out; have hz40 := z40.out; have hz41 := z41.out; have hJ := HhI.out; have h1 := HGL.out; omega) ?_
      intro vI w42 ho hg _
      have e42 := Lib.hid (e41.out.grown hg (fun k hk => by have h8 := qD.out k hk; have hz0 := z0.out; have hz37 := z37.out; have hz38 := z38.out; have hz39 := z39.out; have hz40 := z40.out; have hz41 := z41.out; have hJ := HhI.out; have h1 := HGL.out; omega))
      have z42 := Lib.hid (show w41.heap.size ≤ w42.heap.size from hg.size)
      have rT42 := Lib.hid (rT41.out.grown hg (fun k hk hb => by have h8 := qD.out k hk; have h9 := hb.2; have hz0 := z0.out; have hz37 := z37.out; have hz38 := z38.out; have hz39 := z39.out; have hz40 := z40.out; have hz41 := z41.out; have hJ := HhI.out; have h1 := HGL.out; omega))
      have rI42 := Lib.hid (show Rs kInt w42 (· ≠ g) vI (s.ids ++ [n]) from ho.rs)
      obtain ⟨AI, nI, cI_, ev⟩ : ∃ A n c, vI = .slice A n c := by obtain ⟨A, c, e, _⟩ := _root_.id ho.rs; exact ⟨_, _, _, e⟩
      subst ev
      clear ho hg
      refine hK.out _ _ (HSE.out _ e42.out) (gone (by kernel_rfl)) ?_
      clear hK K
      (try simp only [Act.put, List.setIfInBounds_toArray, List.set_cons_zero, List.set_cons_succ])
      refine wpF_take0 (i := 13) (v := ?v48) rfl (by kernel_rfl) (by kernel_rfl) (by kernel_rfl) (fun _ _ _ h => h) (by kernel_rfl) (Or.inl ⟨by rfl, ?hy48⟩) (HSE.out _ e42.out) (gone (by kernel_rfl)) ?rest48
      case hy48 => (intro W hSW; (try dsimp only at hSW); go_simp; (try with_reducible rfl))
      (try simp only [Act.put, List.setIfInBounds_toArray, List.set_cons_zero, List.set_cons_succ])
      refine wpF_take0 (i := 14) (v := ?v49) rfl (by kernel_rfl) (by kernel_rfl) (by kernel_rfl) (fun _ _ _ h => h) (by kernel_rfl) (Or.inl ⟨by rfl, ?hy49⟩) (HSE.out _ e42.out) (gone (by kernel_rfl)) ?rest49
      case hy49 => (intro W hSW; (try dsimp only at hSW); go_simp; (try with_reducible rfl))
      (try simp only [Act.put, List.setIfInBounds_toArray, List.set_cons_zero, List.set_cons_succ])
      refine wpF_done (by kernel_rfl) ?_ _
      refine NoPanic.normal ?_
      exact hK2.out _ _ _ _ _ _ _ _ _ _ _ _ _ _ _ _  (Lib.hid ⟨rT42.out.mono (fun b hb => hb.1), rI42.out, e42.out⟩)
    · go_simp
      obtain ⟨w43, hw⟩ : ∃ W, W = w37.alloc (.cells (msgC m (.slice Ae m.entries.length ce) (.slice Av m.voters.length cv) (.slice Ad m.data.length cd)) 26) := ⟨_, rfl⟩
      have hx : Ext w37 w43 := by rw [hw]; exact (Ext.refl _).alloc _
      have tb := heap_new w37 _ rfl (.cells (msgC m (.slice Ae m.entries.length ce) (.slice Av m.voters.length cv) (.slice Ad m.data.length cd)) 26)
      rw [← hw] at tb
      have e43 := Lib.hid (e37.out.trans hx)
      have z43 := Lib.hid (show w37.heap.size ≤ w43.heap.size ∧ w37.heap.size < w43.heap.size from ⟨hx.le, blk_lt tb⟩)
      have tI43 := Lib.hid (blk_ext tI37.out hx)
      (try unfold msgC at hw)
      rw [← hw]
      clear hw hx
      refine hK.out _ _ (HSE.out _ e43.out) (gone (by kernel_rfl)) ?_
      clear hK K
      (try simp only [Act.put, List.setIfInBounds_toArray, List.set_cons_zero, List.set_cons_succ])
      obtain ⟨hL, hh⟩ : ∃ b, b = w37.heap.size := ⟨_, rfl⟩
      rw [← hh] at tb ⊢
      have HhL := Lib.hid hh
      clear hh
      have rL43 := Lib.hid (show Rs kMsg w43 (fun b => b = hL ∨ (b ≠ g ∧ b < w.heap.size)) (.slice (some ⟨hL, 0, none⟩) 1 1) [m] from Rs.one_msg tb (.inl rfl) (((hm.out.bound).ext e43.out).mono (fun b hb => .inr hb)))
      clear tb
      refine wpF_step (i := 1) (by kernel_rfl) rfl (fun K hK => ?_)
      go_simp
      refine (CloneMsg_calls w43 (· ≠ g) _ s.ms (ht.out.ext e43.out) HSZ.out.1).mono ?_
      rintro e w44 ⟨vC, rfl, ho, hx⟩
      have e44 := Lib.hid (e43.out.trans hx)
      have z44 := Lib.hid (show w43.heap.size ≤ w44.heap.size from hx.le)
      have rL44 := Lib.hid (rL43.out.ext hx)
      have tI44 := Lib.hid (blk_ext tI43.out hx)
      have qC := Lib.hid (show ∀ k, vC.ownBlock = some k → w43.heap.size ≤ k ∧ k < w44.heap.size from fun k hk => ⟨ho.from_ k hk, ho.lt k hk⟩)
      have oC44 := Lib.hid (show Ow kMsg 26 w44 w43.heap.size (· ≠ g) vC s.ms from ho.mono (fun b hb => by have h1 := HGL.out; have hz0 := z0.out; have hz37 := z37.out; have hz43 := z43.out; rcases hb with hb | hb; omega; exact hb))
      obtain ⟨AC, nC, cC_, ev⟩ : ∃ A n c, vC = .slice A n c := by obtain ⟨A, c, e, _⟩ := _root_.id oC44.out.rs; exact ⟨_, _, _, e⟩
      subst ev
      clear ho hx
      (try go_wp2_with fail)
      refine hK.out _ _ (HSE.out _ e44.out) (gone (by kernel_rfl)) ?_
      clear hK K
      (try simp only [Act.put, List.setIfInBounds_toArray, List.set_cons_zero, List.set_cons_succ])
      refine wpF_step (i := 7) (by kernel_rfl) rfl (fun K hK => ?_)
      have hdist : ∀ b, (b = hL ∨ (b ≠ g ∧ b < w.heap.size)) → b ≠ g ∧ some b ≠ (.slice AC nC cC_ : Value).ownBlock := fun b hb => by
        have hz0 := z0.out; have hz37 := z37.out; have hz43 := z43.out; have hz44 := z44.out; have hH := HhL.out; have h1 := HGL.out
        refine ⟨by rcases hb with hb | hb; omega; exact hb.1, fun e => ?_⟩
        have h8 := qC.out b e.symm
        rcases hb with hb | hb <;> omega
      refine step_append_Rs kMsg 121 rfl rfl (.tmp 115) (.tmp 120) 28 26 rfl tMsgs w43.heap.size _ _ s.ms [m] (· ≠ g) _ rfl rfl oC44.out rL44.out (fun y cs hy => kMsg.mono hdist hy) (fun b hb => by have hz0 := z0.out; have hz37 := z37.out; have hz43 := z43.out; have hz44 := z44.out; have hH := HhL.out; have h1 := HGL.out; show b ≠ g; omega) HSZ.out.2.2.1 (by have hz0 := z0.out; have hz37 := z37.out; have hz43 := z43.out; have hz44 := z44.out; have hH := HhL.out; have h1 := HGL.out; omega) ?_
      intro vT w45 ho hg _
      have e45 := Lib.hid (e44.out.grown hg (fun k hk => by have h8 := qC.out k hk; have hz0 := z0.out; have hz37 := z37.out; have hz43 := z43.out; have hz44 := z44.out; have hH := HhL.out; have h1 := HGL.out; omega))
      have z45 := Lib.hid (show w44.heap.size ≤ w45.heap.size from hg.size)
      have tI45 := Lib.hid ((hg.block hI (blk_lt tI44.out) (fun e => by have h8 := qC.out hI e.symm; have hJ := HhI.out; have hz0 := z0.out; have hz37 := z37.out; have hz43 := z43.out; have hz44 := z44.out; have hH := HhL.out; have h1 := HGL.out; omega)).trans tI44.out)
      have rT45 := Lib.hid (show Rs kMsg w45 (fun b => b ≠ g ∧ b < w45.heap.size) vT (s.ms ++ [m]) from ho.rs.bound)
      obtain ⟨AT, nT, cT_, ev⟩ : ∃ A n c, vT = .slice A n c := by obtain ⟨A, c, e, _⟩ := _root_.id ho.rs; exact ⟨_, _, _, e⟩
      subst ev
      clear ho hg hdist
      refine hK.out _ _ (HSE.out _ e45.out) (gone (by kernel_rfl)) ?_
      clear hK K
      (try simp only [Act.put, List.setIfInBounds_toArray, List.set_cons_zero, List.set_cons_succ])
      refine wpF_step (i := 9) (by kernel_rfl) rfl (fun K hK => ?_)
      go_simp
      refine (CloneI_calls w45 (· ≠ g) _ s.ids (hi.out.ext e45.out) HSZ.out.2.1).mono ?_
      rintro e w46 ⟨vD, rfl, ho, hx⟩
      have e46 := Lib.hid (e45.out.trans hx)
      have z46 := Lib.hid (show w45.heap.size ≤ w46.heap.size from hx.le)
      have tI46 := Lib.hid (blk_ext tI45.out hx)
      have rT46 := Lib.hid (rT45.out.ext hx)
      have qD := Lib.hid (show ∀ k, vD.ownBlock = some k → w45.heap.size ≤ k ∧ k < w46.heap.size from fun k hk => ⟨ho.from_ k hk, ho.lt k hk⟩)
      have oD46 := Lib.hid (show Ow kInt 3 w46 w45.heap.size (· ≠ g) vD s.ids from ho.mono (fun b hb => by have h1 := HGL.out; have hz0 := z0.out; have hz37 := z37.out; have hz43 := z43.out; have hz44 := z44.out; have hz45 := z45.out; have h2 : w45.heap.size ≤ b := hb; omega))
      obtain ⟨AD, nD, cD_, ev⟩ : ∃ A n c, vD = .slice A n c := by obtain ⟨A, c, e, _⟩ := _root_.id oD46.out.rs; exact ⟨_, _, _, e⟩
      subst ev
      clear ho hx
      (try go_wp2_with fail)
      refine hK.out _ _ (HSE.out _ e46.out) (gone (by kernel_rfl)) ?_
      clear hK K
      (try simp only [Act.put, List.setIfInBounds_toArray, List.set_cons_zero, List.set_cons_succ])
      refine wpF_step (i := 12) (by kernel_rfl) rfl (fun K hK => ?_)
      refine step_append_Rs kInt 126 rfl rfl (.tmp 123) (.tmp 125) 23 3 rfl tInts w45.heap.size _ _ s.ids [n] (· ≠ g) (fun _ => True) rfl rfl oD46.out (Rs.one_intb tI46.out trivial hn) (fun _ _ h => h) (fun b hb => by have hz0 := z0.out; have hz37 := z37.out; have hz43 := z43.out; have hz44 := z44.out; have hz45 := z45.out; have hz46 := z46.out; have hJ := HhI.out; have h1 := HGL.out; show b ≠ g; omega) HSZ.out.2.2.2 (by have hz0 := z0.out; have hz37 := z37.out; have hz43 := z43.out; have hz44 := z44.out; have hz45 := z45.out; have hz46 := z46.out; have hJ := HhI.out; have h1 := HGL.out; omega) ?_
      intro vI w47 ho hg _
      have e47 := Lib.hid (e46.out.grown hg (fun k hk => by have h8 := qD.out k hk; have hz0 := z0.out; have hz37 := z37.out; have hz43 := z43.out; have hz44 := z44.out; have hz45 := z45.out; have hz46 := z46.out; have hJ := HhI.out; have h1 := HGL.out; omega))
      have z47 := Lib.hid (show w46.heap.size ≤ w47.heap.size from hg.size)
      have rT47 := Lib.hid (rT46.out.grown hg (fun k hk hb => by have h8 := qD.out k hk; have h9 := hb.2; have hz0 := z0.out; have hz37 := z37.out; have hz43 := z43.out; have hz44 := z44.out; have hz45 := z45.out; have hz46 := z46.out; have hJ := HhI.out; have h1 := HGL.out; omega))
      have rI47 := Lib.hid (show Rs kInt w47 (· ≠ g) vI (s.ids ++ [n]) from ho.rs)
      obtain ⟨AI, nI, cI_, ev⟩ : ∃ A n c, vI = .slice A n c := by obtain ⟨A, c, e, _⟩ := _root_.id ho.rs; exact ⟨_, _, _, e⟩
      subst ev
      clear ho hg
      refine hK.out _ _ (HSE.out _ e47.out) (gone (by kernel_rfl)) ?_
      clear hK K
      (try simp only [Act.put, List.setIfInBounds_toArray, List.set_cons_zero, List.set_cons_succ])
      refine wpF_take0 (i := 13) (v := ?v50) rfl (by kernel_rfl) (by kernel_rfl) (by kernel_rfl) (fun _ _ _ h => h) (by kernel_rfl) (Or.inl ⟨by rfl, ?hy50⟩) (HSE.out _ e47.out) (gone (by kernel_rfl)) ?rest50
      case hy50 => (intro W hSW; (try dsimp only at hSW); go_simp; (try with_reducible rfl))
      (try simp only [Act.put, List.setIfInBounds_toArray, List.set_cons_zero, List.set_cons_succ])
      refine wpF_take0 (i := 14) (v := ?v51) rfl (by kernel_rfl) (by kernel_rfl) (by kernel_rfl) (fun _ _ _ h => h) (by kernel_rfl) (Or.inl ⟨by rfl, ?hy51⟩) (HSE.out _ e47.out) (gone (by kernel_rfl)) ?rest51
      case hy51 => (intro W hSW; (try dsimp only at hSW); go_simp; (try with_reducible rfl))
      (try simp only [Act.put, List.setIfInBounds_toArray, List.set_cons_zero, List.set_cons_succ])
      refine wpF_done (by kernel_rfl) ?_ _
      refine NoPanic.normal ?_
      exact hK2.out _ _ _ _ _ _ _ _ _ _ _ _ _ _ _ _  (Lib.hid ⟨rT47.out.mono (fun b hb => hb.1), rI47.out, e47.out⟩)

end Go.Proofs.Ytfflcnlgkbgbhaa
