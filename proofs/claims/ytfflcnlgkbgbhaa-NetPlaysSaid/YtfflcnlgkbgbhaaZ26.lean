/-
  Texts of this claim, put together: PlayP.
-/
import Derived.Test.YtfflcnlgkbgbhaaZ25
import Derived.Test.YtfflcnlgkbgbhaaZ8
set_option linter.unusedVariables false
set_option linter.unusedSimpArgs false
namespace Go.Proofs.Ytfflcnlgkbgbhaa
open Go.RowKit

set_option maxRecDepth 1000000 in
set_option maxHeartbeats 4000000 in
theorem pl30 {Q : Exit → Act → World → Prop} {w : World} {c0 c1 c2 c5 c7 c8 c9 c10 c11 c12 c13 c14 c15 c16 c17 c18 c19 c20 c21 c22 c23 c24 c25 c26 c27 c28 c29 c30 c31 c32 c33 c34 c35 c36 c37 c38 c39 c40 c41 c42 c43 c44 c45 c46 c47 c48 c49 c50 c51 c52 c53 c54 c55 c56 c57 c58 c59 c60 c61 c62 c63 c64 c65 c66 c67 c68 c69 c70 c71 c72 c73 c74 c75 c76 c77 c78 c79 c80 c81 c82 c83 c84 c85 c86 c87 c88 c89 c90 c91 c92 c93 c94 c95 c96 c97 c98 c99 c100 c101 c102 c103 c104 c105 c106 c107 c108 c109 c110 c111 c112 c113 c114 c115 c116 c117 c118 c119 c120 c121 c122 c123 c124 c125 c126 c127 c128 c129 c130 c131 c132 c133 c134 c135 c136 c137 c138 c139 c140 c141 c142 c143 c144 c145 c146 c147 c148 c149 c150 c151 : Value} (E : Nat → Prop) (g g2 q : Nat) (s : BagS) (op id : Int) (vl : Value) (hp : Hid (PlayR w E g g2 s)) (hq : Hid (w.heap[q]? = some (.cells #[.int .i64 op, .int .i64 id, vl] 52 (0, 0)))) (hqg : q ≠ g ∧ q ≠ g2) (hid : I64 id)
    (hK : ∀ (u100 u101 u102 u103 u104 u105 u106 u107 : Value) (wx : World), Hid (PlayR wx E g g2 (s.lose id).1 ∧ Upd (fun b => b = g ∨ b = g2) w wx) → Q .normal ⟨#[c0, c1, c2, .pointer (some ⟨g, 0, none⟩), .pointer (some ⟨g2, 0, none⟩), c5, .pointer (some ⟨q, 0, none⟩), c7, c8, (.int .i64 ((s.lose id).2 : Int)), (.int .i64 ((s.lose id).2 : Int)), c11, c12, c13, c14, c15, c16, c17, c18, c19, c20, c21, c22, c23, c24, c25, c26, c27, c28, c29, c30, c31, c32, c33, c34, c35, c36, c37, c38, c39, c40, c41, c42, c43, c44, c45, c46, c47, c48, c49, c50, c51, c52, c53, c54, c55, c56, c57, c58, c59, c60, c61, c62, c63, c64, c65, c66, c67, c68, c69, c70, c71, c72, c73, c74, c75, c76, c77, c78, c79, c80, c81, c82, c83, c84, c85, c86, c87, c88, c89, c90, c91, c92, c93, c94, c95, c96, c97, c98, c99, u100, u101, u102, u103, u104, u105, u106, u107, c108, c109, c110, c111, c112, c113, c114, c115, c116, c117, c118, c119, c120, c121, c122, c123, c124, c125, c126, c127, c128, c129, c130, c131, c132, c133, c134, c135, c136, c137, c138, c139, c140, c141, c142, c143, c144, c145, c146, c147, c148, c149, c150, c151], []⟩ wx) :
    Code.wp Try.prog ((Try.f7.body.bind (regionAt 30)).getD .skip) Q ⟨#[c0, c1, c2, .pointer (some ⟨g, 0, none⟩), .pointer (some ⟨g2, 0, none⟩), c5, .pointer (some ⟨q, 0, none⟩), c7, c8, c9, c10, c11, c12, c13, c14, c15, c16, c17, c18, c19, c20, c21, c22, c23, c24, c25, c26, c27, c28, c29, c30, c31, c32, c33, c34, c35, c36, c37, c38, c39, c40, c41, c42, c43, c44, c45, c46, c47, c48, c49, c50, c51, c52, c53, c54, c55, c56, c57, c58, c59, c60, c61, c62, c63, c64, c65, c66, c67, c68, c69, c70, c71, c72, c73, c74, c75, c76, c77, c78, c79, c80, c81, c82, c83, c84, c85, c86, c87, c88, c89, c90, c91, c92, c93, c94, c95, c96, c97, c98, c99, c100, c101, c102, c103, c104, c105, c106, c107, c108, c109, c110, c111, c112, c113, c114, c115, c116, c117, c118, c119, c120, c121, c122, c123, c124, c125, c126, c127, c128, c129, c130, c131, c132, c133, c134, c135, c136, c137, c138, c139, c140, c141, c142, c143, c144, c145, c146, c147, c148, c149, c150, c151], []⟩ w := by
  conv => arg 2; whnf
  have hK2 := Lib.hid @hK
  obtain ⟨w0, hw0⟩ : ∃ W, W = w.drew := ⟨_, rfl⟩
  have e0 := Lib.hid (show Ext w w0 by rw [hw0]; exact (Ext.refl w).drew)
  have hb0 := Lib.hid (blk_ext hq.out e0.out)
  have P0 := Lib.hid (hp.out.ext e0.out)
  have HS0 := Lib.hid (show ∀ W : World, W.heap[q]? = some (.cells #[.int .i64 op, .int .i64 id, vl] 52 (0, 0)) → W.cell? ⟨q, 1, none⟩ = some (.int .i64 id) from fun W h => cell_blk h 1)
  clear hK
  refine wpF_region (fun W => W.cell? ⟨q, 1, none⟩ = some (.int .i64 id)) (fun _ => True) 99 10 (by kernel_rfl) (by kernel_rfl) ?_
  rw [← hw0]
  clear hw0
  refine wpF_take0 (i := 0) (v := ?v1) rfl (by kernel_rfl) (by kernel_rfl) (by kernel_rfl) (fun _ _ _ h => h) (by kernel_rfl) (Or.inl ⟨by rfl, ?hy1⟩) (HS0.out _ hb0.out) (gone (by kernel_rfl)) ?rest1
  case hy1 => (intro W hSW; (try dsimp only at hSW); go_simp; (try with_reducible rfl))
  (try simp only [Act.put, List.setIfInBounds_toArray, List.set_cons_zero, List.set_cons_succ])
  refine wpF_take0 (i := 1) (v := ?v2) rfl (by kernel_rfl) (by kernel_rfl) (by kernel_rfl) (fun _ _ _ h => h) (by kernel_rfl) (Or.inl ⟨by rfl, ?hy2⟩) (HS0.out _ hb0.out) (gone (by kernel_rfl)) ?rest2
  case hy2 => (intro W hSW; (try dsimp only at hSW); go_simp; (try with_reducible rfl))
  (try simp only [Act.put, List.setIfInBounds_toArray, List.set_cons_zero, List.set_cons_succ])
  refine wpF_take0 (i := 2) (v := ?v3) rfl (by kernel_rfl) (by kernel_rfl) (by kernel_rfl) (fun _ _ _ h => h) (by kernel_rfl) (Or.inl ⟨by rfl, ?hy3⟩) (HS0.out _ hb0.out) (gone (by kernel_rfl)) ?rest3
  case hy3 => (intro W hSW; (try dsimp only at hSW); go_simp; (try with_reducible rfl))
  (try simp only [Act.put, List.setIfInBounds_toArray, List.set_cons_zero, List.set_cons_succ])
  refine wpF_take0 (i := 4) (v := ?v4) rfl (by kernel_rfl) (by kernel_rfl) (by kernel_rfl) (fun _ _ _ h => h) (by kernel_rfl) (Or.inl ⟨by rfl, ?hy4⟩) (HS0.out _ hb0.out) (gone (by kernel_rfl)) ?rest4
  case hy4 => (intro W hSW; (try dsimp only at hSW); go_simp; (try with_reducible rfl))
  (try simp only [Act.put, List.setIfInBounds_toArray, List.set_cons_zero, List.set_cons_succ])
  refine wpF_take0 (i := 5) (v := ?v5) rfl (by kernel_rfl) (by kernel_rfl) (by kernel_rfl) (fun _ _ _ h => h) (by kernel_rfl) (Or.inl ⟨by rfl, ?hy5⟩) (HS0.out _ hb0.out) (gone (by kernel_rfl)) ?rest5
  case hy5 => (intro W hSW; (try dsimp only at hSW); go_simp; (try with_reducible rfl))
  (try simp only [Act.put, List.setIfInBounds_toArray, List.set_cons_zero, List.set_cons_succ])
  refine wpF_take0 (i := 6) (v := ?v6) rfl (by kernel_rfl) (by kernel_rfl) (by kernel_rfl) (fun _ _ _ h => h) (by kernel_rfl) (Or.inl ⟨by rfl, ?hy6⟩) (HS0.out _ hb0.out) (gone (by kernel_rfl)) ?rest6
  case hy6 => (intro W hSW; (try dsimp only at hSW); go_simp; (try with_reducible rfl))
  (try simp only [Act.put, List.setIfInBounds_toArray, List.set_cons_zero, List.set_cons_succ])
  refine wpF_step (i := 3) (by kernel_rfl) rfl (fun K hK => ?_)
  go_simp
  refine (NetLose_calls w0 g (BE E) s id hid P0.out.net).mono ?_
  rintro e w1 ⟨rfl, hn, hu⟩
  have hb1 := Lib.hid (blk_upd hb0.out hu (show ¬ q = g from hqg.1))
  have P1 := Lib.hid (P0.out.net1 hn hu)
  have E1 := Lib.hid (P0.out.2.2.le hu.le)
  have U1 := Lib.hid ((e0.out.upd (fun b => b = g ∨ b = g2)).trans (hu.mono fun b hb => .inl hb))
  clear hn hu
  (try go_wp2_with fail)
  refine hK.out _ _ (HS0.out _ hb1.out) (gone (by kernel_rfl)) ?_
  clear hK K
  (try simp only [Act.put, List.setIfInBounds_toArray, List.set_cons_zero, List.set_cons_succ])
  refine wpF_step (i := 7) (by kernel_rfl) rfl (fun K hK => ?_)
  go_simp
  refine (RLose_calls w1 g2 (BE E) s id P1.out.2).mono ?_
  rintro e w2 ⟨rfl, hn, hu⟩
  have hb2 := Lib.hid (blk_upd hb1.out hu (show ¬ q = g2 from hqg.2))
  have P2 := Lib.hid (PlayR.ref1 P1.out.1 E1.out (fun b hb => hb) hn hu)
  have U2 := Lib.hid (U1.out.trans (hu.mono fun b hb => .inr hb))
  clear hn hu
  (try go_wp2_with fail)
  refine hK.out _ _ (HS0.out _ hb2.out) (gone (by kernel_rfl)) ?_
  clear hK K
  (try simp only [Act.put, List.setIfInBounds_toArray, List.set_cons_zero, List.set_cons_succ])
  refine wpF_take0 (i := 8) (v := ?v7) rfl (by kernel_rfl) (by kernel_rfl) (by kernel_rfl) (fun _ _ _ h => h) (by kernel_rfl) (Or.inl ⟨by rfl, ?hy7⟩) (HS0.out _ hb2.out) (gone (by kernel_rfl)) ?rest7
  case hy7 => (intro W hSW; (try dsimp only at hSW); go_simp; (try with_reducible rfl))
  (try simp only [Act.put, List.setIfInBounds_toArray, List.set_cons_zero, List.set_cons_succ])
  refine wpF_take0 (i := 9) (v := ?v8) rfl (by kernel_rfl) (by kernel_rfl) (by kernel_rfl) (fun _ _ _ h => h) (by kernel_rfl) (Or.inl ⟨by rfl, ?hy8⟩) (HS0.out _ hb2.out) (gone (by kernel_rfl)) ?rest8
  case hy8 => (intro W hSW; (try dsimp only at hSW); go_simp; (try with_reducible rfl))
  (try simp only [Act.put, List.setIfInBounds_toArray, List.set_cons_zero, List.set_cons_succ])
  refine wpF_done (by kernel_rfl) ?_ _
  refine NoPanic.normal ?_
  exact hK2.out _ _ _ _ _ _ _ _ _  (Lib.hid ⟨P2.out, U2.out⟩)

set_option maxRecDepth 1000000 in
set_option maxHeartbeats 4000000 in
theorem pl32 {Q : Exit → Act → World → Prop} {w : World} {c0 c1 c2 c5 c7 c8 c9 c10 c11 c12 c13 c14 c15 c16 c17 c18 c19 c20 c21 c22 c23 c24 c25 c26 c27 c28 c29 c30 c31 c32 c33 c34 c35 c36 c37 c38 c39 c40 c41 c42 c43 c44 c45 c46 c47 c48 c49 c50 c51 c52 c53 c54 c55 c56 c57 c58 c59 c60 c61 c62 c63 c64 c65 c66 c67 c68 c69 c70 c71 c72 c73 c74 c75 c76 c77 c78 c79 c80 c81 c82 c83 c84 c85 c86 c87 c88 c89 c90 c91 c92 c93 c94 c95 c96 c97 c98 c99 c100 c101 c102 c103 c104 c105 c106 c107 c108 c109 c110 c111 c112 c113 c114 c115 c116 c117 c118 c119 c120 c121 c122 c123 c124 c125 c126 c127 c128 c129 c130 c131 c132 c133 c134 c135 c136 c137 c138 c139 c140 c141 c142 c143 c144 c145 c146 c147 c148 c149 c150 c151 : Value} (E : Nat → Prop) (g g2 q : Nat) (s : BagS) (op id : Int) (vl : Value) (hp : Hid (PlayR w E g g2 s)) (hq : Hid (w.heap[q]? = some (.cells #[.int .i64 op, .int .i64 id, vl] 52 (0, 0)))) (hqg : q ≠ g ∧ q ≠ g2) (hid : I64 id) (hl : s.last + 1 ≤ 4611686018427387904)
    (hK : ∀ (u110 u111 u112 u113 u114 u115 u116 u117 : Value) (wx : World), Hid (PlayR wx E g g2 (s.double id).1 ∧ Upd (fun b => b = g ∨ b = g2) w wx) → Q .normal ⟨#[c0, c1, c2, .pointer (some ⟨g, 0, none⟩), .pointer (some ⟨g2, 0, none⟩), c5, .pointer (some ⟨q, 0, none⟩), c7, c8, (.int .i64 ((s.double id).2 : Int)), (.int .i64 ((s.double id).2 : Int)), c11, c12, c13, c14, c15, c16, c17, c18, c19, c20, c21, c22, c23, c24, c25, c26, c27, c28, c29, c30, c31, c32, c33, c34, c35, c36, c37, c38, c39, c40, c41, c42, c43, c44, c45, c46, c47, c48, c49, c50, c51, c52, c53, c54, c55, c56, c57, c58, c59, c60, c61, c62, c63, c64, c65, c66, c67, c68, c69, c70, c71, c72, c73, c74, c75, c76, c77, c78, c79, c80, c81, c82, c83, c84, c85, c86, c87, c88, c89, c90, c91, c92, c93, c94, c95, c96, c97, c98, c99, c100, c101, c102, c103, c104, c105, c106, c107, c108, c109, u110, u111, u112, u113, u114, u115, u116, u117, c118, c119, c120, c121, c122, c123, c124, c125, c126, c127, c128, c129, c130, c131, c132, c133, c134, c135, c136, c137, c138, c139, c140, c141, c142, c143, c144, c145, c146, c147, c148, c149, c150, c151], []⟩ wx) :
    Code.wp Try.prog ((Try.f7.body.bind (regionAt 32)).getD .skip) Q ⟨#[c0, c1, c2, .pointer (some ⟨g, 0, none⟩), .pointer (some ⟨g2, 0, none⟩), c5, .pointer (some ⟨q, 0, none⟩), c7, c8, c9, c10, c11, c12, c13, c14, c15, c16, c17, c18, c19, c20, c21, c22, c23, c24, c25, c26, c27, c28, c29, c30, c31, c32, c33, c34, c35, c36, c37, c38, c39, c40, c41, c42, c43, c44, c45, c46, c47, c48, c49, c50, c51, c52, c53, c54, c55, c56, c57, c58, c59, c60, c61, c62, c63, c64, c65, c66, c67, c68, c69, c70, c71, c72, c73, c74, c75, c76, c77, c78, c79, c80, c81, c82, c83, c84, c85, c86, c87, c88, c89, c90, c91, c92, c93, c94, c95, c96, c97, c98, c99, c100, c101, c102, c103, c104, c105, c106, c107, c108, c109, c110, c111, c112, c113, c114, c115, c116, c117, c118, c119, c120, c121, c122, c123, c124, c125, c126, c127, c128, c129, c130, c131, c132, c133, c134, c135, c136, c137, c138, c139, c140, c141, c142, c143, c144, c145, c146, c147, c148, c149, c150, c151], []⟩ w := by
  conv => arg 2; whnf
  have hK2 := Lib.hid @hK
  obtain ⟨w0, hw0⟩ : ∃ W, W = w.drew := ⟨_, rfl⟩
  have e0 := Lib.hid (show Ext w w0 by rw [hw0]; exact (Ext.refl w).drew)
  have hb0 := Lib.hid (blk_ext hq.out e0.out)
  have P0 := Lib.hid (hp.out.ext e0.out)
  have HS0 := Lib.hid (show ∀ W : World, W.heap[q]? = some (.cells #[.int .i64 op, .int .i64 id, vl] 52 (0, 0)) → W.cell? ⟨q, 1, none⟩ = some (.int .i64 id) from fun W h => cell_blk h 1)
  clear hK
  refine wpF_region (fun W => W.cell? ⟨q, 1, none⟩ = some (.int .i64 id)) (fun _ => True) 99 10 (by kernel_rfl) (by kernel_rfl) ?_
  rw [← hw0]
  clear hw0
  refine wpF_take0 (i := 0) (v := ?v9) rfl (by kernel_rfl) (by kernel_rfl) (by kernel_rfl) (fun _ _ _ h => h) (by kernel_rfl) (Or.inl ⟨by rfl, ?hy9⟩) (HS0.out _ hb0.out) (gone (by kernel_rfl)) ?rest9
  case hy9 => (intro W hSW; (try dsimp only at hSW); go_simp; (try with_reducible rfl))
  (try simp only [Act.put, List.setIfInBounds_toArray, List.set_cons_zero, List.set_cons_succ])
  refine wpF_take0 (i := 1) (v := ?v10) rfl (by kernel_rfl) (by kernel_rfl) (by kernel_rfl) (fun _ _ _ h => h) (by kernel_rfl) (Or.inl ⟨by rfl, ?hy10⟩) (HS0.out _ hb0.out) (gone (by kernel_rfl)) ?rest10
  case hy10 => (intro W hSW; (try dsimp only at hSW); go_simp; (try with_reducible rfl))
  (try simp only [Act.put, List.setIfInBounds_toArray, List.set_cons_zero, List.set_cons_succ])
  refine wpF_take0 (i := 2) (v := ?v11) rfl (by kernel_rfl) (by kernel_rfl) (by kernel_rfl) (fun _ _ _ h => h) (by kernel_rfl) (Or.inl ⟨by rfl, ?hy11⟩) (HS0.out _ hb0.out) (gone (by kernel_rfl)) ?rest11
  case hy11 => (intro W hSW; (try dsimp only at hSW); go_simp; (try with_reducible rfl))
  (try simp only [Act.put, List.setIfInBounds_toArray, List.set_cons_zero, List.set_cons_succ])
  refine wpF_take0 (i := 4) (v := ?v12) rfl (by kernel_rfl) (by kernel_rfl) (by kernel_rfl) (fun _ _ _ h => h) (by kernel_rfl) (Or.inl ⟨by rfl, ?hy12⟩) (HS0.out _ hb0.out) (gone (by kernel_rfl)) ?rest12
  case hy12 => (intro W hSW; (try dsimp only at hSW); go_simp; (try with_reducible rfl))
  (try simp only [Act.put, List.setIfInBounds_toArray, List.set_cons_zero, List.set_cons_succ])
  refine wpF_take0 (i := 5) (v := ?v13) rfl (by kernel_rfl) (by kernel_rfl) (by kernel_rfl) (fun _ _ _ h => h) (by kernel_rfl) (Or.inl ⟨by rfl, ?hy13⟩) (HS0.out _ hb0.out) (gone (by kernel_rfl)) ?rest13
  case hy13 => (intro W hSW; (try dsimp only at hSW); go_simp; (try with_reducible rfl))
  (try simp only [Act.put, List.setIfInBounds_toArray, List.set_cons_zero, List.set_cons_succ])
  refine wpF_take0 (i := 6) (v := ?v14) rfl (by kernel_rfl) (by kernel_rfl) (by kernel_rfl) (fun _ _ _ h => h) (by kernel_rfl) (Or.inl ⟨by rfl, ?hy14⟩) (HS0.out _ hb0.out) (gone (by kernel_rfl)) ?rest14
  case hy14 => (intro W hSW; (try dsimp only at hSW); go_simp; (try with_reducible rfl))
  (try simp only [Act.put, List.setIfInBounds_toArray, List.set_cons_zero, List.set_cons_succ])
  refine wpF_step (i := 3) (by kernel_rfl) rfl (fun K hK => ?_)
  go_simp
  refine (NetDouble_calls w0 g (BE E) s id hid hl P0.out.net).mono ?_
  rintro e w1 ⟨rfl, hn, hu⟩
  have hb1 := Lib.hid (blk_upd hb0.out hu (show ¬ q = g from hqg.1))
  have P1 := Lib.hid (P0.out.net1 hn hu)
  have E1 := Lib.hid (P0.out.2.2.le hu.le)
  have U1 := Lib.hid ((e0.out.upd (fun b => b = g ∨ b = g2)).trans (hu.mono fun b hb => .inl hb))
  clear hn hu
  (try go_wp2_with fail)
  refine hK.out _ _ (HS0.out _ hb1.out) (gone (by kernel_rfl)) ?_
  clear hK K
  (try simp only [Act.put, List.setIfInBounds_toArray, List.set_cons_zero, List.set_cons_succ])
  refine wpF_step (i := 7) (by kernel_rfl) rfl (fun K hK => ?_)
  go_simp
  refine (RDouble_calls w1 g2 (BE E) s id hl P1.out.2).mono ?_
  rintro e w2 ⟨rfl, hn, hu⟩
  have hb2 := Lib.hid (blk_upd hb1.out hu (show ¬ q = g2 from hqg.2))
  have P2 := Lib.hid (PlayR.ref1 P1.out.1 E1.out (fun b hb => hb) hn hu)
  have U2 := Lib.hid (U1.out.trans (hu.mono fun b hb => .inr hb))
  clear hn hu
  (try go_wp2_with fail)
  refine hK.out _ _ (HS0.out _ hb2.out) (gone (by kernel_rfl)) ?_
  clear hK K
  (try simp only [Act.put, List.setIfInBounds_toArray, List.set_cons_zero, List.set_cons_succ])
  refine wpF_take0 (i := 8) (v := ?v15) rfl (by kernel_rfl) (by kernel_rfl) (by kernel_rfl) (fun _ _ _ h => h) (by kernel_rfl) (Or.inl ⟨by rfl, ?hy15⟩) (HS0.out _ hb2.out) (gone (by kernel_rfl)) ?rest15
  case hy15 => (intro W hSW; (try dsimp only at hSW); go_simp; (try with_reducible rfl))
  (try simp only [Act.put, List.setIfInBounds_toArray, List.set_cons_zero, List.set_cons_succ])
  refine wpF_take0 (i := 9) (v := ?v16) rfl (by kernel_rfl) (by kernel_rfl) (by kernel_rfl) (fun _ _ _ h => h) (by kernel_rfl) (Or.inl ⟨by rfl, ?hy16⟩) (HS0.out _ hb2.out) (gone (by kernel_rfl)) ?rest16
  case hy16 => (intro W hSW; (try dsimp only at hSW); go_simp; (try with_reducible rfl))
  (try simp only [Act.put, List.setIfInBounds_toArray, List.set_cons_zero, List.set_cons_succ])
  refine wpF_done (by kernel_rfl) ?_ _
  refine NoPanic.normal ?_
  exact hK2.out _ _ _ _ _ _ _ _ _  (Lib.hid ⟨P2.out, U2.out⟩)

set_option maxRecDepth 1000000 in
set_option maxHeartbeats 4000000 in
theorem pl16 {K : Act → World → Prop} {Q : Exit → Act → World → Prop} {w : World} {c0 c1 c2 c5 c7 c8 c9 c10 c12 c13 c14 c15 c16 c17 c18 c19 c20 c21 c22 c23 c24 c25 c26 c27 c28 c29 c30 c31 c32 c33 c34 c35 c36 c37 c38 c39 c40 c41 c42 c43 c44 c45 c46 c47 c48 c49 c50 c51 c52 c53 c54 c55 c56 c57 c58 c59 c60 c61 c62 c63 c64 c65 c66 c67 c68 c69 c70 c71 c72 c73 c74 c75 c76 c77 c78 c79 c80 c81 c82 c83 c84 c85 c86 c87 c88 c89 c90 c91 c92 c93 c94 c95 c96 c97 c98 c99 c100 c101 c102 c103 c104 c105 c106 c107 c108 c109 c110 c111 c112 c113 c114 c115 c116 c117 c118 c119 c120 c121 c122 c123 c124 c125 c126 c127 c128 c129 c130 c131 c132 c133 c134 c135 c136 c137 c138 c139 c140 c141 c142 c143 c144 c145 c146 c147 c148 c149 c150 c151 : Value} (E : Nat → Prop) (g g2 q : Nat) (s : BagS) (op id : Int) (AL Al : Option Addr) (nL cL cl : Nat) (l : List MsgS) (hp : Hid (PlayR w E g g2 s)) (hq : Hid (w.heap[q]? = some (.cells #[.int .i64 op, .int .i64 id, .slice Al l.length cl] 52 (0, 0)))) (hqg : q ≠ g ∧ q ≠ g2) (T : Nat → Prop) (hTg : ¬ T g) (hL : Hid (Rs kMsg w T (.slice AL nL cL) l)) (hl2 : Hid (Rs kMsg w (BE E) (.slice Al l.length cl) l)) (hl : s.last + (l.length : Int) ≤ 4611686018427387904)
    (hK : ∀ (u49 u50 u51 u52 u53 u54 u55 : Value) (wx : World), Hid (PlayR wx E g g2 (s.send l).1 ∧ Upd (fun b => b = g ∨ b = g2) w wx) → K ⟨#[c0, c1, c2, .pointer (some ⟨g, 0, none⟩), .pointer (some ⟨g2, 0, none⟩), c5, .pointer (some ⟨q, 0, none⟩), c7, c8, c9, c10, .slice AL nL cL, c12, c13, c14, c15, c16, c17, c18, c19, c20, c21, c22, c23, c24, c25, c26, c27, c28, c29, c30, c31, c32, c33, c34, c35, c36, c37, c38, c39, c40, c41, c42, c43, c44, c45, c46, c47, c48, u49, u50, u51, u52, u53, u54, u55, .bool false, c57, c58, c59, c60, c61, c62, c63, c64, c65, c66, c67, c68, c69, c70, c71, c72, c73, c74, c75, c76, c77, c78, c79, c80, c81, c82, c83, c84, c85, c86, c87, c88, c89, c90, c91, c92, c93, c94, c95, c96, c97, c98, c99, c100, c101, c102, c103, c104, c105, c106, c107, c108, c109, c110, c111, c112, c113, c114, c115, c116, c117, c118, c119, c120, c121, c122, c123, c124, c125, c126, c127, c128, c129, c130, c131, c132, c133, c134, c135, c136, c137, c138, c139, c140, c141, c142, c143, c144, c145, c146, c147, c148, c149, c150, c151], []⟩ wx) :
    Code.wp Try.prog ((Try.f7.body.bind (regionAt 16)).getD .skip) (Exit.then K Q) ⟨#[c0, c1, c2, .pointer (some ⟨g, 0, none⟩), .pointer (some ⟨g2, 0, none⟩), c5, .pointer (some ⟨q, 0, none⟩), c7, c8, c9, c10, .slice AL nL cL, c12, c13, c14, c15, c16, c17, c18, c19, c20, c21, c22, c23, c24, c25, c26, c27, c28, c29, c30, c31, c32, c33, c34, c35, c36, c37, c38, c39, c40, c41, c42, c43, c44, c45, c46, c47, c48, c49, c50, c51, c52, c53, c54, c55, c56, c57, c58, c59, c60, c61, c62, c63, c64, c65, c66, c67, c68, c69, c70, c71, c72, c73, c74, c75, c76, c77, c78, c79, c80, c81, c82, c83, c84, c85, c86, c87, c88, c89, c90, c91, c92, c93, c94, c95, c96, c97, c98, c99, c100, c101, c102, c103, c104, c105, c106, c107, c108, c109, c110, c111, c112, c113, c114, c115, c116, c117, c118, c119, c120, c121, c122, c123, c124, c125, c126, c127, c128, c129, c130, c131, c132, c133, c134, c135, c136, c137, c138, c139, c140, c141, c142, c143, c144, c145, c146, c147, c148, c149, c150, c151], []⟩ w := by
  conv => arg 2; whnf
  have hK2 := Lib.hid @hK
  obtain ⟨w0, hw0⟩ : ∃ W, W = w.drew := ⟨_, rfl⟩
  have e0 := Lib.hid (show Ext w w0 by rw [hw0]; exact (Ext.refl w).drew)
  have hb0 := Lib.hid (blk_ext hq.out e0.out)
  have P0 := Lib.hid (hp.out.ext e0.out)
  have HS0 := Lib.hid (show ∀ W : World, W.heap[q]? = some (.cells #[.int .i64 op, .int .i64 id, .slice Al l.length cl] 52 (0, 0)) → W.cell? ⟨q, 2, none⟩ = some (.slice Al l.length cl) from fun W h => cell_blk h 2)
  have hcc : ((((s.send l).2 : Int)) != ((s.send l).2 : Int)) = false := bne_self_eq_false _
  clear hK
  refine wpF_region (fun W => W.cell? ⟨q, 2, none⟩ = some (.slice Al l.length cl)) (fun _ => True) 99 8 (by kernel_rfl) (by kernel_rfl) ?_
  rw [← hw0]
  clear hw0
  refine wpF_take0 (i := 0) (v := ?v17) rfl (by kernel_rfl) (by kernel_rfl) (by kernel_rfl) (fun _ _ _ h => h) (by kernel_rfl) (Or.inl ⟨by rfl, ?hy17⟩) (HS0.out _ hb0.out) (gone (by kernel_rfl)) ?rest17
  case hy17 => (intro W hSW; (try dsimp only at hSW); go_simp; (try with_reducible rfl))
  (try simp only [Act.put, List.setIfInBounds_toArray, List.set_cons_zero, List.set_cons_succ])
  refine wpF_take0 (i := 1) (v := ?v18) rfl (by kernel_rfl) (by kernel_rfl) (by kernel_rfl) (fun _ _ _ h => h) (by kernel_rfl) (Or.inl ⟨by rfl, ?hy18⟩) (HS0.out _ hb0.out) (gone (by kernel_rfl)) ?rest18
  case hy18 => (intro W hSW; (try dsimp only at hSW); go_simp; (try with_reducible rfl))
  (try simp only [Act.put, List.setIfInBounds_toArray, List.set_cons_zero, List.set_cons_succ])
  refine wpF_take0 (i := 3) (v := ?v19) rfl (by kernel_rfl) (by kernel_rfl) (by kernel_rfl) (fun _ _ _ h => h) (by kernel_rfl) (Or.inl ⟨by rfl, ?hy19⟩) (HS0.out _ hb0.out) (gone (by kernel_rfl)) ?rest19
  case hy19 => (intro W hSW; (try dsimp only at hSW); go_simp; (try with_reducible rfl))
  (try simp only [Act.put, List.setIfInBounds_toArray, List.set_cons_zero, List.set_cons_succ])
  refine wpF_take0 (i := 4) (v := ?v20) rfl (by kernel_rfl) (by kernel_rfl) (by kernel_rfl) (fun _ _ _ h => h) (by kernel_rfl) (Or.inl ⟨by rfl, ?hy20⟩) (HS0.out _ hb0.out) (gone (by kernel_rfl)) ?rest20
  case hy20 => (intro W hSW; (try dsimp only at hSW); go_simp; (try with_reducible rfl))
  (try simp only [Act.put, List.setIfInBounds_toArray, List.set_cons_zero, List.set_cons_succ])
  refine wpF_take0 (i := 5) (v := ?v21) rfl (by kernel_rfl) (by kernel_rfl) (by kernel_rfl) (fun _ _ _ h => h) (by kernel_rfl) (Or.inl ⟨by rfl, ?hy21⟩) (HS0.out _ hb0.out) (gone (by kernel_rfl)) ?rest21
  case hy21 => (intro W hSW; (try dsimp only at hSW); go_simp; (try with_reducible rfl))
  (try simp only [Act.put, List.setIfInBounds_toArray, List.set_cons_zero, List.set_cons_succ])
  refine wpF_step (i := 2) (by kernel_rfl) rfl (fun K hK => ?_)
  go_simp
  refine (NetSend_calls w0 g (BE E) T s (.slice AL nL cL) l hl P0.out.net hTg (hL.out.ext e0.out)).mono ?_
  rintro e w1 ⟨rfl, hn, hu⟩
  have hb1 := Lib.hid (blk_upd hb0.out hu (show ¬ q = g from hqg.1))
  have P1 := Lib.hid (P0.out.net1 hn hu)
  have E1 := Lib.hid (P0.out.2.2.le hu.le)
  have U1 := Lib.hid ((e0.out.upd (fun b => b = g ∨ b = g2)).trans (hu.mono fun b hb => .inl hb))
  have R1 := Lib.hid ((hl2.out.ext e0.out).upd hu fun b hb e => hb (e ▸ P0.out.2.2.g1))
  clear hn hu
  (try go_wp2_with fail)
  refine hK.out _ _ (HS0.out _ hb1.out) (gone (by kernel_rfl)) ?_
  clear hK K
  (try simp only [Act.put, List.setIfInBounds_toArray, List.set_cons_zero, List.set_cons_succ])
  refine wpF_step (i := 6) (by kernel_rfl) rfl (fun K hK => ?_)
  go_simp
  refine (RSend_calls w1 g2 (BE E) (BE E) s (.slice Al l.length cl) l hl P1.out.2 (fun h => h P0.out.2.2.g2') R1.out).mono ?_
  rintro e w2 ⟨rfl, hn, hu⟩
  have hb2 := Lib.hid (blk_upd hb1.out hu (show ¬ q = g2 from hqg.2))
  have P2 := Lib.hid (PlayR.ref1 P1.out.1 E1.out (fun b hb => hb.elim (fun h => h) (fun h => h)) hn hu)
  have U2 := Lib.hid (U1.out.trans (hu.mono fun b hb => .inr hb))
  clear hn hu
  (try go_wp2_with fail)
  refine hK.out _ _ (HS0.out _ hb2.out) (gone (by kernel_rfl)) ?_
  clear hK K
  (try simp only [Act.put, List.setIfInBounds_toArray, List.set_cons_zero, List.set_cons_succ])
  refine wpF_take0 (i := 7) (v := ?v22) rfl (by kernel_rfl) (by kernel_rfl) (by kernel_rfl) (fun _ _ _ h => h) (by kernel_rfl) (Or.inl ⟨by rfl, ?hy22⟩) (HS0.out _ hb2.out) (gone (by kernel_rfl)) ?rest22
  case hy22 => (intro W hSW; (try dsimp only at hSW); go_simp; (try with_reducible rfl))
  (try simp only [Act.put, List.setIfInBounds_toArray, List.set_cons_zero, List.set_cons_succ])
  refine wpF_done (by kernel_rfl) ?_ _
  refine NoPanic.normal ?_
  exact hK2.out _ _ _ _ _ _ _ _  (Lib.hid ⟨P2.out, U2.out⟩)
end Go.Proofs.Ytfflcnlgkbgbhaa
