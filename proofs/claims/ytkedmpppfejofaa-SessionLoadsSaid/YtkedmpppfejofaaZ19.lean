/-
  Texts of this claim, put together: SesRLoadP, SesRLoad, SessionLoads.
-/
import Derived.Test.YtkedmpppfejofaaZ17
import Derived.Test.YtkedmpppfejofaaZ1
import Derived.Test.YtkedmpppfejofaaZ16
import Derived.Deep.DeepCutAuto
set_option linter.unusedVariables false
set_option linter.unusedSimpArgs false
namespace Go.Proofs.Ytkedmpppfejofaa
open Go.RowKit

set_option maxRecDepth 1000000 in
set_option maxHeartbeats 4000000 in
theorem sld22 {Q : Exit → Act → World → Prop} {w : World} {c0 c1 c2 c3 c4 c5 c7 c9 c10 c11 c12 c13 c14 c15 c16 c17 c18 c19 c20 c21 c22 c23 c24 c25 c26 c27 c28 c29 c30 c31 c32 c33 c34 c35 c36 c37 c38 c39 c40 c41 c42 c43 c44 c45 c46 c47 c48 c49 c50 c51 c52 c53 c54 c55 c56 c57 c58 c59 c60 c61 c62 c63 c64 c65 c66 c67 c68 c69 c70 c71 c72 c73 c74 c75 c76 c77 c78 c79 c80 c81 c82 c83 c84 c85 c86 c87 c88 c89 c90 c91 c92 c93 c94 c95 c96 c97 c98 c99 c100 c101 c102 c103 c104 c105 c106 c107 c108 c109 c110 c111 c112 c113 c114 c115 c116 c117 c118 c119 c120 c121 c122 c123 c124 c125 c126 c127 c128 c129 c130 c131 c132 c133 c134 c135 c136 c137 c138 c139 c140 c141 c142 c143 c144 c145 : Value} (pt g base : Nat) (S : Nat → Prop) (A : Option Addr) (c : Nat) (L : List SeatS) (x : SeatS) (hI : SeatI x) (hl : L.length ≤ 1000) (hg : Hid (w.heap[g]? = some (.cells (seatC x) 47 (0, 0)))) (hp : Hid (w.heap[pt]? = some (.cells #[.slice A L.length c] 61 (0, 0)))) (ho : Hid (Ow kSeat 47 w base S (.slice A L.length c) L)) (hS : ∀ k, w.heap.size ≤ k → S k) (hbs : base ≤ w.heap.size) (hgS : ¬ S g) (hpS : ¬ S pt) (hgp : g ≠ pt)
    (hK : ∀ (u121 u122 u123 u124 u125 u126 u127 u128 u129 u130 : Value) (wx : World), Hid (∃ v, wx.heap[pt]? = some (.cells #[v] 61 (0, 0)) ∧ Ow kSeat 47 wx base S v (L ++ [x]) ∧ (∀ w0, Ext w0 w → w0.heap.size ≤ base → w0.heap.size ≤ pt → Ext w0 wx) ∧ ∀ k o, w.heap[k]? = some o → ¬ S k → k ≠ pt → wx.heap[k]? = some o) → Q .normal ⟨#[c0, c1, c2, c3, c4, c5, .pointer (some ⟨pt, 0, none⟩), c7, .pointer (some ⟨g, 0, none⟩), c9, c10, c11, c12, c13, c14, c15, c16, c17, c18, c19, c20, c21, c22, c23, c24, c25, c26, c27, c28, c29, c30, c31, c32, c33, c34, c35, c36, c37, c38, c39, c40, c41, c42, c43, c44, c45, c46, c47, c48, c49, c50, c51, c52, c53, c54, c55, c56, c57, c58, c59, c60, c61, c62, c63, c64, c65, c66, c67, c68, c69, c70, c71, c72, c73, c74, c75, c76, c77, c78, c79, c80, c81, c82, c83, c84, c85, c86, c87, c88, c89, c90, c91, c92, c93, c94, c95, c96, c97, c98, c99, c100, c101, c102, c103, c104, c105, c106, c107, c108, c109, c110, c111, c112, c113, c114, c115, c116, c117, c118, c119, c120, u121, u122, u123, u124, u125, u126, u127, u128, u129, u130, c131, c132, c133, c134, c135, c136, c137, c138, c139, c140, c141, c142, c143, c144, c145], []⟩ wx) :
    Code.wp Try.prog ((Try.f32.body.bind (partR 22)).getD .skip) Q ⟨#[c0, c1, c2, c3, c4, c5, .pointer (some ⟨pt, 0, none⟩), c7, .pointer (some ⟨g, 0, none⟩), c9, c10, c11, c12, c13, c14, c15, c16, c17, c18, c19, c20, c21, c22, c23, c24, c25, c26, c27, c28, c29, c30, c31, c32, c33, c34, c35, c36, c37, c38, c39, c40, c41, c42, c43, c44, c45, c46, c47, c48, c49, c50, c51, c52, c53, c54, c55, c56, c57, c58, c59, c60, c61, c62, c63, c64, c65, c66, c67, c68, c69, c70, c71, c72, c73, c74, c75, c76, c77, c78, c79, c80, c81, c82, c83, c84, c85, c86, c87, c88, c89, c90, c91, c92, c93, c94, c95, c96, c97, c98, c99, c100, c101, c102, c103, c104, c105, c106, c107, c108, c109, c110, c111, c112, c113, c114, c115, c116, c117, c118, c119, c120, c121, c122, c123, c124, c125, c126, c127, c128, c129, c130, c131, c132, c133, c134, c135, c136, c137, c138, c139, c140, c141, c142, c143, c144, c145], []⟩ w := by
  conv => arg 2; whnf
  have hK2 := Lib.hid @hK
  obtain ⟨w1, hw1⟩ : ∃ W, W = w.drew := ⟨_, rfl⟩
  have x1 := Lib.hid (show Ext w w1 by rw [hw1]; exact (Ext.refl w).drew)
  have b1 := Lib.hid (blk_ext hg.out x1.out)
  have p1 := Lib.hid (blk_ext hp.out x1.out)
  have o1 := Lib.hid (ho.out.ext x1.out)
  have HS0 := Lib.hid (show ∀ W : World, W.heap[g]? = some (.cells (seatC x) 47 (0, 0)) → W.heap[pt]? = some (.cells #[.slice A L.length c] 61 (0, 0)) → W.cell? ⟨g, 0, none⟩ = some (.int .i64 x.session) ∧ W.cell? ⟨g, 1, none⟩ = some (.int .i64 x.seq) ∧ W.cell? ⟨g, 2, none⟩ = some (.int .i64 x.at_) ∧ W.cell? ⟨g, 3, none⟩ = some (.int .i64 x.r.err) ∧ W.cell? ⟨g, 4, none⟩ = some (.int .i64 x.r.session) ∧ W.cell? ⟨g, 5, none⟩ = some (.int .i64 x.r.gone) ∧ W.cell? ⟨g, 6, none⟩ = some (.int .i64 x.r.added) ∧ W.cell? ⟨g, 7, none⟩ = some (.int .i64 x.r.same) ∧ W.cell? ⟨g, 8, none⟩ = some (.int .i64 x.r.other) ∧ W.cell? ⟨g, 9, none⟩ = some (.int .i64 x.r.cycle) ∧ W.cell? ⟨g, 10, none⟩ = some (.int .i64 x.r.full) ∧ W.frozen? ⟨pt, 0, none⟩ = false from fun W h1 h2 => ⟨cell_blk h1 0, cell_blk h1 1, cell_blk h1 2, cell_blk h1 3, cell_blk h1 4, cell_blk h1 5, cell_blk h1 6, cell_blk h1 7, cell_blk h1 8, cell_blk h1 9, cell_blk h1 10, frozen_blk h2 0⟩)
  have HS1 := Lib.hid (show ∀ W : World, W.heap[pt]? = some (.cells #[.slice A L.length c] 61 (0, 0)) → W.cell? ⟨pt, 0, none⟩ = some (.slice A L.length c) from fun W h2 => cell_blk h2 0)
  have HL := Lib.hid hl
  clear hK hl
  refine wpF_region (fun W => W.cell? ⟨g, 0, none⟩ = some (.int .i64 x.session) ∧ W.cell? ⟨g, 1, none⟩ = some (.int .i64 x.seq) ∧ W.cell? ⟨g, 2, none⟩ = some (.int .i64 x.at_) ∧ W.cell? ⟨g, 3, none⟩ = some (.int .i64 x.r.err) ∧ W.cell? ⟨g, 4, none⟩ = some (.int .i64 x.r.session) ∧ W.cell? ⟨g, 5, none⟩ = some (.int .i64 x.r.gone) ∧ W.cell? ⟨g, 6, none⟩ = some (.int .i64 x.r.added) ∧ W.cell? ⟨g, 7, none⟩ = some (.int .i64 x.r.same) ∧ W.cell? ⟨g, 8, none⟩ = some (.int .i64 x.r.other) ∧ W.cell? ⟨g, 9, none⟩ = some (.int .i64 x.r.cycle) ∧ W.cell? ⟨g, 10, none⟩ = some (.int .i64 x.r.full) ∧ W.frozen? ⟨pt, 0, none⟩ = false) (fun W => W.cell? ⟨pt, 0, none⟩ = some (.slice A L.length c)) 10 11 (by kernel_rfl) (by kernel_rfl) ?_
  rw [← hw1]
  clear hw1
  refine wpF_take0 (i := 0) (v := ?v1) rfl (by kernel_rfl) (by kernel_rfl) (by kernel_rfl) (fun _ _ _ h => h) (by kernel_rfl) (Or.inl ⟨by rfl, ?hy1⟩) (HS0.out _ b1.out p1.out) (fun _ => HS1.out _ p1.out) ?rest1
  case hy1 => (intro W hSW; (try dsimp only at hSW); go_simp; (try with_reducible rfl))
  (try simp only [Act.put, List.setIfInBounds_toArray, List.set_cons_zero, List.set_cons_succ])
  refine wpF_take0 (i := 1) (v := ?v2) rfl (by kernel_rfl) (by kernel_rfl) (by kernel_rfl) (fun _ _ _ h => h) (by kernel_rfl) (Or.inl ⟨by rfl, ?hy2⟩) (HS0.out _ b1.out p1.out) (fun _ => HS1.out _ p1.out) ?rest2
  case hy2 => (intro W hSW; (try dsimp only at hSW); go_simp; (try with_reducible rfl))
  (try simp only [Act.put, List.setIfInBounds_toArray, List.set_cons_zero, List.set_cons_succ])
  refine wpF_take0 (i := 2) (v := ?v3) rfl (by kernel_rfl) (by kernel_rfl) (by kernel_rfl) (fun _ _ _ h => h) (by kernel_rfl) (Or.inl ⟨by rfl, ?hy3⟩) (HS0.out _ b1.out p1.out) (fun _ => HS1.out _ p1.out) ?rest3
  case hy3 => (intro W hSW; (try dsimp only at hSW); go_simp; (try with_reducible rfl))
  (try simp only [Act.put, List.setIfInBounds_toArray, List.set_cons_zero, List.set_cons_succ])
  refine wpF_take0 (i := 3) (v := ?v4) rfl (by kernel_rfl) (by kernel_rfl) (by kernel_rfl) (fun _ _ _ h => h) (by kernel_rfl) (Or.inl ⟨by rfl, ?hy4⟩) (HS0.out _ b1.out p1.out) (fun _ => HS1.out _ p1.out) ?rest4
  case hy4 => (intro W hSW; (try dsimp only at hSW); go_simp; (try with_reducible rfl))
  (try simp only [Act.put, List.setIfInBounds_toArray, List.set_cons_zero, List.set_cons_succ])
  refine wpF_take1 (i := 4) (v := ?v5) rfl (by kernel_rfl) (by kernel_rfl) (by kernel_rfl) (fun _ _ _ h => h) (by kernel_rfl) (by kernel_rfl) (by kernel_rfl) (Or.inl ⟨by rfl, ?hy5⟩) (HS0.out _ b1.out p1.out) (fun _ => HS1.out _ p1.out) ?rest5
  case hy5 => (intro W hSW; (try dsimp only at hSW); go_simp; (try with_reducible rfl))
  (try simp only [Act.put, List.setIfInBounds_toArray, List.set_cons_zero, List.set_cons_succ])
  refine wpF_take0 (i := 5) (v := ?v6) rfl (by kernel_rfl) (by kernel_rfl) (by kernel_rfl) (fun _ _ _ h => h) (by kernel_rfl) (Or.inl ⟨by rfl, ?hy6⟩) (HS0.out _ b1.out p1.out) (fun _ => HS1.out _ p1.out) ?rest6
  case hy6 => (intro W hSW; (try dsimp only at hSW); go_simp; (try with_reducible rfl))
  (try simp only [Act.put, List.setIfInBounds_toArray, List.set_cons_zero, List.set_cons_succ])
  refine wpF_step (i := 6) (by kernel_rfl) rfl (fun K hK => ?_)
  go_simp
  obtain ⟨w2, hw2⟩ : ∃ W, W = w1.alloc (.cells (seatC x) 47) := ⟨_, rfl⟩
  obtain ⟨gn, hgn⟩ : ∃ q, q = w1.heap.size := ⟨_, rfl⟩
  have hx2 : Ext w1 w2 := by rw [hw2]; exact (Ext.refl _).alloc _
  have x2 := Lib.hid (x1.out.trans hx2)
  have b2 := Lib.hid (blk_ext b1.out hx2)
  have p2 := Lib.hid (blk_ext p1.out hx2)
  have o2 := Lib.hid (o1.out.ext hx2)
  have KX := Lib.hid (show ∀ (k : Nat) (o : Obj), w.heap[k]? = some o → w2.heap[k]? = some o from fun k o hk => (x2.out.block k (Array.getElem?_eq_some_iff.1 hk).1).trans hk)
  have n2 := Lib.hid (show w2.heap[gn]? = some (.cells (seatC x) 47 (0, 0)) by rw [hw2]; exact heap_new w1 gn hgn.symm _)
  have HGN := Lib.hid (show gn = w1.heap.size from hgn)
  unfold seatC at hw2
  rw [← hw2, ← hgn]
  clear hw2 hgn hx2
  refine hK.out _ _ (HS0.out _ b2.out p2.out) (fun _ => HS1.out _ p2.out) ?_
  clear hK K
  (try simp only [Act.put, List.setIfInBounds_toArray, List.set_cons_zero, List.set_cons_succ])
  refine wpF_step (i := 7) (by kernel_rfl) rfl (fun K hK => ?_)
  refine step_append_Rs kSeat 128 rfl rfl (.tmp 125) (.tmp 127) 44 47 rfl tSeats base _ _ L [x] _ (fun k => k = gn) rfl rfl o2.out (Rs.one_seat n2.out rfl hI) (fun y cs hy => kSeat_iff.2 (kSeat_iff.1 hy)) ?hn ?hb ?hz ?_
  case hn => exact fun k hk => hS k (Nat.le_trans x2.out.le hk)
  case hb => have := HL.out; (show (L.length + 1) * 88 ≤ _; omega)
  case hz => exact Nat.le_trans hbs x2.out.le
  intro v3 w3 ho3 hg3 _
  have b3 := Lib.hid ((hg3.block g (blk_lt b2.out) (fun e => hgS (o2.out.1 g e.symm))).trans b2.out)
  have p3 := Lib.hid ((hg3.block pt (blk_lt p2.out) (fun e => hpS (o2.out.1 pt e.symm))).trans p2.out)
  have HO3 := Lib.hid ho3
  have HG3 := Lib.hid hg3
  obtain ⟨A3, c3, e3, -⟩ := ho3.rs
  rw [List.length_append] at e3
  subst e3
  clear ho3 hg3
  refine hK.out _ _ (HS0.out _ b3.out p3.out) (fun _ => HS1.out _ p3.out) ?_
  clear hK K
  (try simp only [Act.put, List.setIfInBounds_toArray, List.set_cons_zero, List.set_cons_succ])
  refine wpF_take0 (i := 8) (v := ?v7) rfl (by kernel_rfl) (by kernel_rfl) (by kernel_rfl) (fun _ _ _ h => h) (by kernel_rfl) (Or.inl ⟨by rfl, ?hy7⟩) (HS0.out _ b3.out p3.out) (fun _ => HS1.out _ p3.out) ?rest7
  case hy7 => (intro W hSW; (try dsimp only at hSW); go_simp; (try with_reducible rfl))
  (try simp only [Act.put, List.setIfInBounds_toArray, List.set_cons_zero, List.set_cons_succ])
  refine wpF_take0 (i := 9) (v := ?v8) rfl (by kernel_rfl) (by kernel_rfl) (by kernel_rfl) (fun _ _ _ h => h) (by kernel_rfl) (Or.inl ⟨by rfl, ?hy8⟩) (HS0.out _ b3.out p3.out) (fun _ => HS1.out _ p3.out) ?rest8
  case hy8 => (intro W hSW; (try dsimp only at hSW); go_simp; (try with_reducible rfl))
  (try simp only [Act.put, List.setIfInBounds_toArray, List.set_cons_zero, List.set_cons_succ])
  have h4 := heap_setCell_same w3 pt 0 _ _ (.slice A3 (L.length + [x].length) c3) p3.out
  have b4 := Lib.hid ((heap_setCell_other w3 ⟨pt, 0, none⟩ g (.slice A3 (L.length + [x].length) c3) hgp).trans b3.out)
  have p4 := Lib.hid (show (w3.setCell ⟨pt, 0, none⟩ (.slice A3 (L.length + [x].length) c3)).heap[pt]? = some (.cells #[.slice A3 (L.length + [x].length) c3] 61 (0, 0)) from h4)
  have HS2 := Lib.hid (show ∀ W : World, W.heap[g]? = some (.cells (seatC x) 47 (0, 0)) → W.heap[pt]? = some (.cells #[.slice A3 (L.length + [x].length) c3] 61 (0, 0)) → W.cell? ⟨g, 0, none⟩ = some (.int .i64 x.session) ∧ W.cell? ⟨g, 1, none⟩ = some (.int .i64 x.seq) ∧ W.cell? ⟨g, 2, none⟩ = some (.int .i64 x.at_) ∧ W.cell? ⟨g, 3, none⟩ = some (.int .i64 x.r.err) ∧ W.cell? ⟨g, 4, none⟩ = some (.int .i64 x.r.session) ∧ W.cell? ⟨g, 5, none⟩ = some (.int .i64 x.r.gone) ∧ W.cell? ⟨g, 6, none⟩ = some (.int .i64 x.r.added) ∧ W.cell? ⟨g, 7, none⟩ = some (.int .i64 x.r.same) ∧ W.cell? ⟨g, 8, none⟩ = some (.int .i64 x.r.other) ∧ W.cell? ⟨g, 9, none⟩ = some (.int .i64 x.r.cycle) ∧ W.cell? ⟨g, 10, none⟩ = some (.int .i64 x.r.full) ∧ W.frozen? ⟨pt, 0, none⟩ = false from fun W h1 h2 => ⟨cell_blk h1 0, cell_blk h1 1, cell_blk h1 2, cell_blk h1 3, cell_blk h1 4, cell_blk h1 5, cell_blk h1 6, cell_blk h1 7, cell_blk h1 8, cell_blk h1 9, cell_blk h1 10, frozen_blk h2 0⟩)
  clear h4
  have y0 := HS1.out _ p3.out
  have f0 : w3.frozen? ⟨pt, 0, none⟩ = false := frozen_blk p3.out 0
  refine wpF_step (i := 10) (by kernel_rfl) rfl (fun K hK => ?_)
  go_simp
  refine hK.out _ _ (HS2.out _ b4.out p4.out) (gone (by kernel_rfl)) ?_
  clear hK K
  (try simp only [Act.put, List.setIfInBounds_toArray, List.set_cons_zero, List.set_cons_succ])
  refine wpF_done (by kernel_rfl) ?_ _
  refine NoPanic.normal ?_
  refine hK2.out _ _ _ _ _ _ _ _ _ _ _  (Lib.hid ⟨_, p4.out, ?_, ?_, ?_⟩)
  · have h5 := HO3.out.seti (g := pt) (i := 0) hpS (.slice A3 (L.length + [x].length) c3)
    exact h5
  · exact fun w0 h1 h2 h3 => ((h1.trans x2.out).grown HG3.out (fun k hk => Nat.le_trans h2 (o2.out.from_ k hk))).seti h3 _
  · intro k o hk hS2 hkp
    have h6 := KX.out k o hk
    have h7 := (HG3.out.block k (Array.getElem?_eq_some_iff.1 h6).1 (fun e => hS2 (o2.out.1 k e.symm))).trans h6
    exact (heap_setCell_other w3 ⟨pt, 0, none⟩ k _ hkp).trans h7
def badB (L : List SeatS) (b : List UInt8) : Bool := decide (8 < L.length) || (imgL L != b)
set_option maxRecDepth 1000000 in
set_option maxHeartbeats 4000000 in
theorem sld23 {K : Act → World → Prop} {Q : Exit → Act → World → Prop} {w : World} {c1 c2 c3 c4 c5 c7 c8 c9 c10 c11 c12 c13 c14 c15 c16 c17 c18 c19 c20 c21 c22 c23 c24 c25 c26 c27 c28 c29 c30 c31 c32 c33 c34 c35 c36 c37 c38 c39 c40 c41 c42 c43 c44 c45 c46 c47 c48 c49 c50 c51 c52 c53 c54 c55 c56 c57 c58 c59 c60 c61 c62 c63 c64 c65 c66 c67 c68 c69 c70 c71 c72 c73 c74 c75 c76 c77 c78 c79 c80 c81 c82 c83 c84 c85 c86 c87 c88 c89 c90 c91 c92 c93 c94 c95 c96 c97 c98 c99 c100 c101 c102 c103 c104 c105 c106 c107 c108 c109 c110 c111 c112 c113 c114 c115 c116 c117 c118 c119 c120 c121 c122 c123 c124 c125 c126 c127 c128 c129 c130 c131 c132 c133 c134 c135 c136 c137 c138 c139 c140 c141 c142 c143 c144 c145 : Value} (pt : Nat) (E S : Nat → Prop) (A Ab : Option Addr) (c cb : Nat) (L : List SeatS) (b : List UInt8) (hI : ∀ x ∈ L, SeatI x) (hl9 : L.length ≤ 9) (hp : Hid (w.heap[pt]? = some (.cells #[.slice A L.length c] 61 (0, 0)))) (hrt : Hid (RTab w pt E L)) (hb : Hid (Rs kByte w S (.slice Ab b.length cb) b))
    (hK : ∀ (u131 u132 u133 u134 u135 u136 u137 u138 u139 u140 u141 u142 u143 : Value) (wx : World), Hid (Ext w wx) → K ⟨#[.slice Ab b.length cb, c1, c2, c3, c4, c5, .pointer (some ⟨pt, 0, none⟩), c7, c8, c9, c10, c11, c12, c13, c14, c15, c16, c17, c18, c19, c20, c21, c22, c23, c24, c25, c26, c27, c28, c29, c30, c31, c32, c33, c34, c35, c36, c37, c38, c39, c40, c41, c42, c43, c44, c45, c46, c47, c48, c49, c50, c51, c52, c53, c54, c55, c56, c57, c58, c59, c60, c61, c62, c63, c64, c65, c66, c67, c68, c69, c70, c71, c72, c73, c74, c75, c76, c77, c78, c79, c80, c81, c82, c83, c84, c85, c86, c87, c88, c89, c90, c91, c92, c93, c94, c95, c96, c97, c98, c99, c100, c101, c102, c103, c104, c105, c106, c107, c108, c109, c110, c111, c112, c113, c114, c115, c116, c117, c118, c119, c120, c121, c122, c123, c124, c125, c126, c127, c128, c129, c130, u131, u132, u133, u134, u135, u136, u137, u138, u139, u140, u141, u142, u143, .bool (badB L b), c145], []⟩ wx) :
    Code.wp Try.prog ((Try.f32.body.bind (partR 23)).getD .skip) (Exit.then K Q) ⟨#[.slice Ab b.length cb, c1, c2, c3, c4, c5, .pointer (some ⟨pt, 0, none⟩), c7, c8, c9, c10, c11, c12, c13, c14, c15, c16, c17, c18, c19, c20, c21, c22, c23, c24, c25, c26, c27, c28, c29, c30, c31, c32, c33, c34, c35, c36, c37, c38, c39, c40, c41, c42, c43, c44, c45, c46, c47, c48, c49, c50, c51, c52, c53, c54, c55, c56, c57, c58, c59, c60, c61, c62, c63, c64, c65, c66, c67, c68, c69, c70, c71, c72, c73, c74, c75, c76, c77, c78, c79, c80, c81, c82, c83, c84, c85, c86, c87, c88, c89, c90, c91, c92, c93, c94, c95, c96, c97, c98, c99, c100, c101, c102, c103, c104, c105, c106, c107, c108, c109, c110, c111, c112, c113, c114, c115, c116, c117, c118, c119, c120, c121, c122, c123, c124, c125, c126, c127, c128, c129, c130, c131, c132, c133, c134, c135, c136, c137, c138, c139, c140, c141, c142, c143, c144, c145], []⟩ w := by
  conv => arg 2; whnf
  have hK2 := Lib.hid @hK
  obtain ⟨w1, hw1⟩ : ∃ W, W = w.drew := ⟨_, rfl⟩
  have x1 := Lib.hid (show Ext w w1 by rw [hw1]; exact (Ext.refl w).drew)
  have HS0 := Lib.hid (show ∀ W : World, Ext w W → W.cell? ⟨pt, 0, none⟩ = some (.slice A L.length c) ∧ (convert 56 9 (.slice Ab b.length cb)).run Try.prog W = .ok (.string ⟨b.toArray⟩) W from fun W h => ⟨cell_blk (blk_ext hp.out h) 0, (hb.out.ext h).to_string Try.underlying56 tByte tString⟩)
  have HL9 := Lib.hid hl9
  clear hK hl9
  by_cases h8 : 8 < L.length
  · have HBAD := Lib.hid (show badB L b = true by unfold badB; rw [decide_eq_true h8]; rfl)
    have h8' : (8 : Int) < (L.length : Int) := by omega
    refine wpF_region (fun W => W.cell? ⟨pt, 0, none⟩ = some (.slice A L.length c) ∧ (convert 56 9 (.slice Ab b.length cb)).run Try.prog W = .ok (.string ⟨b.toArray⟩) W) (fun _ => True) 99 14 (by kernel_rfl) (by kernel_rfl) ?_
    rw [← hw1]
    clear hw1
    refine wpF_take0 (i := 0) (v := ?v9) rfl (by kernel_rfl) (by kernel_rfl) (by kernel_rfl) (fun _ _ _ h => h) (by kernel_rfl) (Or.inl ⟨by rfl, ?hy9⟩) (HS0.out _ x1.out) (gone (by kernel_rfl)) ?rest9
    case hy9 => (intro W hSW; (try dsimp only at hSW); go_simp; (try with_reducible rfl))
    (try simp only [Act.put, List.setIfInBounds_toArray, List.set_cons_zero, List.set_cons_succ])
    refine wpF_take0 (i := 1) (v := ?v10) rfl (by kernel_rfl) (by kernel_rfl) (by kernel_rfl) (fun _ _ _ h => h) (by kernel_rfl) (Or.inl ⟨by rfl, ?hy10⟩) (HS0.out _ x1.out) (gone (by kernel_rfl)) ?rest10
    case hy10 => (intro W hSW; (try dsimp only at hSW); go_simp; (try with_reducible rfl))
    (try simp only [Act.put, List.setIfInBounds_toArray, List.set_cons_zero, List.set_cons_succ])
    refine wpF_take0 (i := 2) (v := ?v11) rfl (by kernel_rfl) (by kernel_rfl) (by kernel_rfl) (fun _ _ _ h => h) (by kernel_rfl) (Or.inl ⟨by rfl, ?hy11⟩) (HS0.out _ x1.out) (gone (by kernel_rfl)) ?rest11
    case hy11 => (intro W hSW; (try dsimp only at hSW); go_simp; (try with_reducible rfl))
    (try simp only [Act.put, List.setIfInBounds_toArray, List.set_cons_zero, List.set_cons_succ])
    refine wpF_take0 (i := 3) (v := ?v12) rfl (by kernel_rfl) (by kernel_rfl) (by kernel_rfl) (fun _ _ _ h => h) (by kernel_rfl) (Or.inl ⟨by rfl, ?hy12⟩) (HS0.out _ x1.out) (gone (by kernel_rfl)) ?rest12
    case hy12 => (intro W hSW; (try dsimp only at hSW); go_simp; (try with_reducible rfl))
    (try simp only [Act.put, List.setIfInBounds_toArray, List.set_cons_zero, List.set_cons_succ])
    refine wpF_take0 (i := 4) (v := ?v13) rfl (by kernel_rfl) (by kernel_rfl) (by kernel_rfl) (fun _ _ _ h => h) (by kernel_rfl) (Or.inl ⟨by rfl, ?hy13⟩) (HS0.out _ x1.out) (gone (by kernel_rfl)) ?rest13
    case hy13 => (intro W hSW; (try dsimp only at hSW); go_simp; (try with_reducible rfl))
    (try simp only [Act.put, List.setIfInBounds_toArray, List.set_cons_zero, List.set_cons_succ])
    refine wpF_take0 (i := 5) (v := ?v14) rfl (by kernel_rfl) (by kernel_rfl) (by kernel_rfl) (fun _ _ _ h => h) (by kernel_rfl) (Or.inl ⟨by rfl, ?hy14⟩) (HS0.out _ x1.out) (gone (by kernel_rfl)) ?rest14
    case hy14 => (intro W hSW; (try dsimp only at hSW); go_simp; (try with_reducible rfl))
    (try simp only [Act.put, List.setIfInBounds_toArray, List.set_cons_zero, List.set_cons_succ])
    refine wpF_take0 (i := 6) (v := ?v15) rfl (by kernel_rfl) (by kernel_rfl) (by kernel_rfl) (fun _ _ _ h => h) (by kernel_rfl) (Or.inl ⟨by rfl, ?hy15⟩) (HS0.out _ x1.out) (gone (by kernel_rfl)) ?rest15
    case hy15 => (intro W hSW; (try dsimp only at hSW); go_simp; (try with_reducible rfl))
    (try simp only [Act.put, List.setIfInBounds_toArray, List.set_cons_zero, List.set_cons_succ])
    refine wpF_take0 (i := 7) (v := undef) rfl (by kernel_rfl) (by kernel_rfl) (by kernel_rfl) (fun _ _ _ h => h) (by kernel_rfl) (Or.inr ⟨by rfl, rfl⟩) (HS0.out _ x1.out) (gone (by kernel_rfl)) ?rest16
    (try simp only [Act.put, List.setIfInBounds_toArray, List.set_cons_zero, List.set_cons_succ])
    refine wpF_take0 (i := 8) (v := undef) rfl (by kernel_rfl) (by kernel_rfl) (by kernel_rfl) (fun _ _ _ h => h) (by kernel_rfl) (Or.inr ⟨by rfl, rfl⟩) (HS0.out _ x1.out) (gone (by kernel_rfl)) ?rest17
    (try simp only [Act.put, List.setIfInBounds_toArray, List.set_cons_zero, List.set_cons_succ])
    refine wpF_take0 (i := 9) (v := undef) rfl (by kernel_rfl) (by kernel_rfl) (by kernel_rfl) (fun _ _ _ h => h) (by kernel_rfl) (Or.inr ⟨by rfl, rfl⟩) (HS0.out _ x1.out) (gone (by kernel_rfl)) ?rest18
    (try simp only [Act.put, List.setIfInBounds_toArray, List.set_cons_zero, List.set_cons_succ])
    refine wpF_take0 (i := 10) (v := undef) rfl (by kernel_rfl) (by kernel_rfl) (by kernel_rfl) (fun _ _ _ h => h) (by kernel_rfl) (Or.inr ⟨by rfl, rfl⟩) (HS0.out _ x1.out) (gone (by kernel_rfl)) ?rest19
    (try simp only [Act.put, List.setIfInBounds_toArray, List.set_cons_zero, List.set_cons_succ])
    refine wpF_take0 (i := 11) (v := undef) rfl (by kernel_rfl) (by kernel_rfl) (by kernel_rfl) (fun _ _ _ h => h) (by kernel_rfl) (Or.inr ⟨by rfl, rfl⟩) (HS0.out _ x1.out) (gone (by kernel_rfl)) ?rest20
    (try simp only [Act.put, List.setIfInBounds_toArray, List.set_cons_zero, List.set_cons_succ])
    refine wpF_take0 (i := 12) (v := undef) rfl (by kernel_rfl) (by kernel_rfl) (by kernel_rfl) (fun _ _ _ h => h) (by kernel_rfl) (Or.inr ⟨by rfl, rfl⟩) (HS0.out _ x1.out) (gone (by kernel_rfl)) ?rest21
    (try simp only [Act.put, List.setIfInBounds_toArray, List.set_cons_zero, List.set_cons_succ])
    refine wpF_take0 (i := 13) (v := ?v22) rfl (by kernel_rfl) (by kernel_rfl) (by kernel_rfl) (fun _ _ _ h => h) (by kernel_rfl) (Or.inl ⟨by rfl, ?hy22⟩) (HS0.out _ x1.out) (gone (by kernel_rfl)) ?rest22
    case hy22 => (intro W hSW; (try dsimp only at hSW); go_simp; (try with_reducible rfl))
    (try simp only [Act.put, List.setIfInBounds_toArray, List.set_cons_zero, List.set_cons_succ])
    refine wpF_done (by kernel_rfl) ?_ _
    refine NoPanic.normal ?_
    have h9 := hK2.out
    rw [HBAD.out] at h9
    exact h9 _ _ _ _ _ _ _ _ _ _ _ _ _ _  (Lib.hid x1.out)
  · have h8' : decide ((8 : Int) < (L.length : Int)) = false := decide_eq_false (by omega)
    have h8n : decide (8 < L.length) = false := decide_eq_false h8
    by_cases hq : imgL L = b
    · have HBAD := Lib.hid (show badB L b = false by unfold badB; rw [h8n, hq]; simp)
      have hq1 : (imgL L != b) = false := by rw [hq]; simp
      have hq2 : (imgL L == b) = true := beq_iff_eq.2 hq
      clear hq h8 h8n
      refine wpF_region (fun W => W.cell? ⟨pt, 0, none⟩ = some (.slice A L.length c) ∧ (convert 56 9 (.slice Ab b.length cb)).run Try.prog W = .ok (.string ⟨b.toArray⟩) W) (fun _ => True) 99 14 (by kernel_rfl) (by kernel_rfl) ?_
      rw [← hw1]
      clear hw1
      refine wpF_take0 (i := 0) (v := ?v23) rfl (by kernel_rfl) (by kernel_rfl) (by kernel_rfl) (fun _ _ _ h => h) (by kernel_rfl) (Or.inl ⟨by rfl, ?hy23⟩) (HS0.out _ x1.out) (gone (by kernel_rfl)) ?rest23
      case hy23 => (intro W hSW; (try dsimp only at hSW); go_simp; (try with_reducible rfl))
      (try simp only [Act.put, List.setIfInBounds_toArray, List.set_cons_zero, List.set_cons_succ])
      refine wpF_take0 (i := 1) (v := ?v24) rfl (by kernel_rfl) (by kernel_rfl) (by kernel_rfl) (fun _ _ _ h => h) (by kernel_rfl) (Or.inl ⟨by rfl, ?hy24⟩) (HS0.out _ x1.out) (gone (by kernel_rfl)) ?rest24
      case hy24 => (intro W hSW; (try dsimp only at hSW); go_simp; (try with_reducible rfl))
      (try simp only [Act.put, List.setIfInBounds_toArray, List.set_cons_zero, List.set_cons_succ])
      refine wpF_take0 (i := 2) (v := ?v25) rfl (by kernel_rfl) (by kernel_rfl) (by kernel_rfl) (fun _ _ _ h => h) (by kernel_rfl) (Or.inl ⟨by rfl, ?hy25⟩) (HS0.out _ x1.out) (gone (by kernel_rfl)) ?rest25
      case hy25 => (intro W hSW; (try dsimp only at hSW); go_simp; (try with_reducible rfl))
      (try simp only [Act.put, List.setIfInBounds_toArray, List.set_cons_zero, List.set_cons_succ])
      refine wpF_take0 (i := 3) (v := ?v26) rfl (by kernel_rfl) (by kernel_rfl) (by kernel_rfl) (fun _ _ _ h => h) (by kernel_rfl) (Or.inl ⟨by rfl, ?hy26⟩) (HS0.out _ x1.out) (gone (by kernel_rfl)) ?rest26
      case hy26 => (intro W hSW; (try dsimp only at hSW); go_simp; (try with_reducible rfl))
      (try simp only [Act.put, List.setIfInBounds_toArray, List.set_cons_zero, List.set_cons_succ])
      refine wpF_take0 (i := 4) (v := ?v27) rfl (by kernel_rfl) (by kernel_rfl) (by kernel_rfl) (fun _ _ _ h => h) (by kernel_rfl) (Or.inl ⟨by rfl, ?hy27⟩) (HS0.out _ x1.out) (gone (by kernel_rfl)) ?rest27
      case hy27 => (intro W hSW; (try dsimp only at hSW); go_simp; (try with_reducible rfl))
      (try simp only [Act.put, List.setIfInBounds_toArray, List.set_cons_zero, List.set_cons_succ])
      refine wpF_take0 (i := 5) (v := ?v28) rfl (by kernel_rfl) (by kernel_rfl) (by kernel_rfl) (fun _ _ _ h => h) (by kernel_rfl) (Or.inl ⟨by rfl, ?hy28⟩) (HS0.out _ x1.out) (gone (by kernel_rfl)) ?rest28
      case hy28 => (intro W hSW; (try dsimp only at hSW); go_simp; (try with_reducible rfl))
      (try simp only [Act.put, List.setIfInBounds_toArray, List.set_cons_zero, List.set_cons_succ])
      refine wpF_take0 (i := 6) (v := ?v29) rfl (by kernel_rfl) (by kernel_rfl) (by kernel_rfl) (fun _ _ _ h => h) (by kernel_rfl) (Or.inl ⟨by rfl, ?hy29⟩) (HS0.out _ x1.out) (gone (by kernel_rfl)) ?rest29
      case hy29 => (intro W hSW; (try dsimp only at hSW); go_simp; (try with_reducible rfl))
      (try simp only [Act.put, List.setIfInBounds_toArray, List.set_cons_zero, List.set_cons_succ])
      refine wpF_take0 (i := 7) (v := ?v30) rfl (by kernel_rfl) (by kernel_rfl) (by kernel_rfl) (fun _ _ _ h => h) (by kernel_rfl) (Or.inl ⟨by rfl, ?hy30⟩) (HS0.out _ x1.out) (gone (by kernel_rfl)) ?rest30
      case hy30 => (intro W hSW; (try dsimp only at hSW); go_simp; (try with_reducible rfl))
      (try simp only [Act.put, List.setIfInBounds_toArray, List.set_cons_zero, List.set_cons_succ])
      refine wpF_take0 (i := 10) (v := ?v31) rfl (by kernel_rfl) (by kernel_rfl) (by kernel_rfl) (fun _ _ _ h => h) (by kernel_rfl) (Or.inl ⟨by rfl, ?hy31⟩) (HS0.out _ x1.out) (gone (by kernel_rfl)) ?rest31
      case hy31 => (intro W hSW; (try dsimp only at hSW); go_simp; (try with_reducible rfl))
      (try simp only [Act.put, List.setIfInBounds_toArray, List.set_cons_zero, List.set_cons_succ])
      refine wpF_take0 (i := 11) (v := ?v32) rfl (by kernel_rfl) (by kernel_rfl) (by kernel_rfl) (fun _ _ _ h => h) (by kernel_rfl) (Or.inl ⟨by rfl, ?hy32⟩) (HS0.out _ x1.out) (gone (by kernel_rfl)) ?rest32
      case hy32 => (intro W hSW; (try dsimp only at hSW); go_simp; (try with_reducible rfl))
      (try simp only [Act.put, List.setIfInBounds_toArray, List.set_cons_zero, List.set_cons_succ])
      refine wpF_step (i := 8) (by kernel_rfl) rfl (fun K hK => ?_)
      go_simp
      refine (RImage_calls w1 pt E L hI (by have := HL9.out; omega) (hrt.out.ext x1.out)).mono ?_
      rintro e w2 ⟨v2, rfl, ho2, hx2⟩
      obtain ⟨A2, k2, ev, -⟩ := id ho2.rs
      subst ev
      have hcv := ho2.rs.to_string (P := Try.prog) Try.underlying56 tByte tString
      have x2 := Lib.hid (x1.out.trans hx2)
      clear ho2 hx2
      (try go_wp2_with fail)
      refine hK.out _ _ (HS0.out _ x2.out) (gone (by kernel_rfl)) ?_
      clear hK K
      (try simp only [Act.put, List.setIfInBounds_toArray, List.set_cons_zero, List.set_cons_succ])
      refine wpF_step (i := 9) (by kernel_rfl) rfl (fun K hK => ?_)
      go_simp
      refine hK.out _ _ (HS0.out _ x2.out) (gone (by kernel_rfl)) ?_
      clear hK K
      (try simp only [Act.put, List.setIfInBounds_toArray, List.set_cons_zero, List.set_cons_succ])
      refine wpF_step (i := 12) (by kernel_rfl) rfl (fun K hK => ?_)
      go_simp
      refine hK.out _ _ (HS0.out _ x2.out) (gone (by kernel_rfl)) ?_
      clear hK K
      (try simp only [Act.put, List.setIfInBounds_toArray, List.set_cons_zero, List.set_cons_succ])
      refine wpF_step (i := 13) (by kernel_rfl) rfl (fun K hK => ?_)
      go_simp
      refine hK.out _ _ (HS0.out _ x2.out) (gone (by kernel_rfl)) ?_
      clear hK K
      (try simp only [Act.put, List.setIfInBounds_toArray, List.set_cons_zero, List.set_cons_succ])
      refine wpF_done (by kernel_rfl) ?_ _
      refine NoPanic.normal ?_
      have h9 := hK2.out
      rw [HBAD.out] at h9
      exact h9 _ _ _ _ _ _ _ _ _ _ _ _ _ _  (Lib.hid x2.out)
    · have HBAD := Lib.hid (show badB L b = true by unfold badB; rw [bne_iff_ne.2 hq]; simp)
      have hq1 : (imgL L != b) = true := bne_iff_ne.2 hq
      have hq2 : (imgL L == b) = false := beq_eq_false_iff_ne.2 hq
      clear hq h8 h8n
      refine wpF_region (fun W => W.cell? ⟨pt, 0, none⟩ = some (.slice A L.length c) ∧ (convert 56 9 (.slice Ab b.length cb)).run Try.prog W = .ok (.string ⟨b.toArray⟩) W) (fun _ => True) 99 14 (by kernel_rfl) (by kernel_rfl) ?_
      rw [← hw1]
      clear hw1
      refine wpF_take0 (i := 0) (v := ?v33) rfl (by kernel_rfl) (by kernel_rfl) (by kernel_rfl) (fun _ _ _ h => h) (by kernel_rfl) (Or.inl ⟨by rfl, ?hy33⟩) (HS0.out _ x1.out) (gone (by kernel_rfl)) ?rest33
      case hy33 => (intro W hSW; (try dsimp only at hSW); go_simp; (try with_reducible rfl))
      (try simp only [Act.put, List.setIfInBounds_toArray, List.set_cons_zero, List.set_cons_succ])
      refine wpF_take0 (i := 1) (v := ?v34) rfl (by kernel_rfl) (by kernel_rfl) (by kernel_rfl) (fun _ _ _ h => h) (by kernel_rfl) (Or.inl ⟨by rfl, ?hy34⟩) (HS0.out _ x1.out) (gone (by kernel_rfl)) ?rest34
      case hy34 => (intro W hSW; (try dsimp only at hSW); go_simp; (try with_reducible rfl))
      (try simp only [Act.put, List.setIfInBounds_toArray, List.set_cons_zero, List.set_cons_succ])
      refine wpF_take0 (i := 2) (v := ?v35) rfl (by kernel_rfl) (by kernel_rfl) (by kernel_rfl) (fun _ _ _ h => h) (by kernel_rfl) (Or.inl ⟨by rfl, ?hy35⟩) (HS0.out _ x1.out) (gone (by kernel_rfl)) ?rest35
      case hy35 => (intro W hSW; (try dsimp only at hSW); go_simp; (try with_reducible rfl))
      (try simp only [Act.put, List.setIfInBounds_toArray, List.set_cons_zero, List.set_cons_succ])
      refine wpF_take0 (i := 3) (v := ?v36) rfl (by kernel_rfl) (by kernel_rfl) (by kernel_rfl) (fun _ _ _ h => h) (by kernel_rfl) (Or.inl ⟨by rfl, ?hy36⟩) (HS0.out _ x1.out) (gone (by kernel_rfl)) ?rest36
      case hy36 => (intro W hSW; (try dsimp only at hSW); go_simp; (try with_reducible rfl))
      (try simp only [Act.put, List.setIfInBounds_toArray, List.set_cons_zero, List.set_cons_succ])
      refine wpF_take0 (i := 4) (v := ?v37) rfl (by kernel_rfl) (by kernel_rfl) (by kernel_rfl) (fun _ _ _ h => h) (by kernel_rfl) (Or.inl ⟨by rfl, ?hy37⟩) (HS0.out _ x1.out) (gone (by kernel_rfl)) ?rest37
      case hy37 => (intro W hSW; (try dsimp only at hSW); go_simp; (try with_reducible rfl))
      (try simp only [Act.put, List.setIfInBounds_toArray, List.set_cons_zero, List.set_cons_succ])
      refine wpF_take0 (i := 5) (v := ?v38) rfl (by kernel_rfl) (by kernel_rfl) (by kernel_rfl) (fun _ _ _ h => h) (by kernel_rfl) (Or.inl ⟨by rfl, ?hy38⟩) (HS0.out _ x1.out) (gone (by kernel_rfl)) ?rest38
      case hy38 => (intro W hSW; (try dsimp only at hSW); go_simp; (try with_reducible rfl))
      (try simp only [Act.put, List.setIfInBounds_toArray, List.set_cons_zero, List.set_cons_succ])
      refine wpF_take0 (i := 6) (v := ?v39) rfl (by kernel_rfl) (by kernel_rfl) (by kernel_rfl) (fun _ _ _ h => h) (by kernel_rfl) (Or.inl ⟨by rfl, ?hy39⟩) (HS0.out _ x1.out) (gone (by kernel_rfl)) ?rest39
      case hy39 => (intro W hSW; (try dsimp only at hSW); go_simp; (try with_reducible rfl))
      (try simp only [Act.put, List.setIfInBounds_toArray, List.set_cons_zero, List.set_cons_succ])
      refine wpF_take0 (i := 7) (v := ?v40) rfl (by kernel_rfl) (by kernel_rfl) (by kernel_rfl) (fun _ _ _ h => h) (by kernel_rfl) (Or.inl ⟨by rfl, ?hy40⟩) (HS0.out _ x1.out) (gone (by kernel_rfl)) ?rest40
      case hy40 => (intro W hSW; (try dsimp only at hSW); go_simp; (try with_reducible rfl))
      (try simp only [Act.put, List.setIfInBounds_toArray, List.set_cons_zero, List.set_cons_succ])
      refine wpF_take0 (i := 10) (v := ?v41) rfl (by kernel_rfl) (by kernel_rfl) (by kernel_rfl) (fun _ _ _ h => h) (by kernel_rfl) (Or.inl ⟨by rfl, ?hy41⟩) (HS0.out _ x1.out) (gone (by kernel_rfl)) ?rest41
      case hy41 => (intro W hSW; (try dsimp only at hSW); go_simp; (try with_reducible rfl))
      (try simp only [Act.put, List.setIfInBounds_toArray, List.set_cons_zero, List.set_cons_succ])
      refine wpF_take0 (i := 11) (v := ?v42) rfl (by kernel_rfl) (by kernel_rfl) (by kernel_rfl) (fun _ _ _ h => h) (by kernel_rfl) (Or.inl ⟨by rfl, ?hy42⟩) (HS0.out _ x1.out) (gone (by kernel_rfl)) ?rest42
      case hy42 => (intro W hSW; (try dsimp only at hSW); go_simp; (try with_reducible rfl))
      (try simp only [Act.put, List.setIfInBounds_toArray, List.set_cons_zero, List.set_cons_succ])
      refine wpF_step (i := 8) (by kernel_rfl) rfl (fun K hK => ?_)
      go_simp
      refine (RImage_calls w1 pt E L hI (by have := HL9.out; omega) (hrt.out.ext x1.out)).mono ?_
      rintro e w2 ⟨v2, rfl, ho2, hx2⟩
      obtain ⟨A2, k2, ev, -⟩ := id ho2.rs
      subst ev
      have hcv := ho2.rs.to_string (P := Try.prog) Try.underlying56 tByte tString
      have x2 := Lib.hid (x1.out.trans hx2)
      clear ho2 hx2
      (try go_wp2_with fail)
      refine hK.out _ _ (HS0.out _ x2.out) (gone (by kernel_rfl)) ?_
      clear hK K
      (try simp only [Act.put, List.setIfInBounds_toArray, List.set_cons_zero, List.set_cons_succ])
      refine wpF_step (i := 9) (by kernel_rfl) rfl (fun K hK => ?_)
      go_simp
      refine hK.out _ _ (HS0.out _ x2.out) (gone (by kernel_rfl)) ?_
      clear hK K
      (try simp only [Act.put, List.setIfInBounds_toArray, List.set_cons_zero, List.set_cons_succ])
      refine wpF_step (i := 12) (by kernel_rfl) rfl (fun K hK => ?_)
      go_simp
      refine hK.out _ _ (HS0.out _ x2.out) (gone (by kernel_rfl)) ?_
      clear hK K
      (try simp only [Act.put, List.setIfInBounds_toArray, List.set_cons_zero, List.set_cons_succ])
      refine wpF_step (i := 13) (by kernel_rfl) rfl (fun K hK => ?_)
      go_simp
      refine hK.out _ _ (HS0.out _ x2.out) (gone (by kernel_rfl)) ?_
      clear hK K
      (try simp only [Act.put, List.setIfInBounds_toArray, List.set_cons_zero, List.set_cons_succ])
      refine wpF_done (by kernel_rfl) ?_ _
      refine NoPanic.normal ?_
      have h9 := hK2.out
      rw [HBAD.out] at h9
      exact h9 _ _ _ _ _ _ _ _ _ _ _ _ _ _  (Lib.hid x2.out)
end Go.Proofs.Ytkedmpppfejofaa
set_option linter.unusedVariables false
set_option linter.unusedSimpArgs false
namespace Go.Proofs.Ytkedmpppfejofaa
open Go.RowKit

theorem rdSeat_steps (s : ScS) : ∃ a0 s1 a1 s2 a2 s3 a3 s4 a4 s5 a5 s6 a6 s7 a7 s8 a8 s9 a9 s10 a10 s11, s.number = (a0, s1) ∧ s1.number = (a1, s2) ∧ s2.number = (a2, s3) ∧ s3.number = (a3, s4) ∧ s4.number = (a4, s5) ∧ s5.number = (a5, s6) ∧ s6.number = (a6, s7) ∧ s7.number = (a7, s8) ∧ s8.number = (a8, s9) ∧ s9.number = (a9, s10) ∧ s10.number = (a10, s11) ∧ rdSeat s = (seatOf [(a0 : Int), (a1 : Int), (a2 : Int), (a3 : Int), (a4 : Int), (a5 : Int), (a6 : Int), (a7 : Int), (a8 : Int), (a9 : Int), (a10 : Int)], s11) := by
  obtain ⟨a0, s1, q0⟩ : ∃ a t, s.number = (a, t) := ⟨_, _, rfl⟩
  obtain ⟨a1, s2, q1⟩ : ∃ a t, s1.number = (a, t) := ⟨_, _, rfl⟩
  obtain ⟨a2, s3, q2⟩ : ∃ a t, s2.number = (a, t) := ⟨_, _, rfl⟩
  obtain ⟨a3, s4, q3⟩ : ∃ a t, s3.number = (a, t) := ⟨_, _, rfl⟩
  obtain ⟨a4, s5, q4⟩ : ∃ a t, s4.number = (a, t) := ⟨_, _, rfl⟩
  obtain ⟨a5, s6, q5⟩ : ∃ a t, s5.number = (a, t) := ⟨_, _, rfl⟩
  obtain ⟨a6, s7, q6⟩ : ∃ a t, s6.number = (a, t) := ⟨_, _, rfl⟩
  obtain ⟨a7, s8, q7⟩ : ∃ a t, s7.number = (a, t) := ⟨_, _, rfl⟩
  obtain ⟨a8, s9, q8⟩ : ∃ a t, s8.number = (a, t) := ⟨_, _, rfl⟩
  obtain ⟨a9, s10, q9⟩ : ∃ a t, s9.number = (a, t) := ⟨_, _, rfl⟩
  obtain ⟨a10, s11, q10⟩ : ∃ a t, s10.number = (a, t) := ⟨_, _, rfl⟩
  refine ⟨a0, s1, a1, s2, a2, s3, a3, s4, a4, s5, a5, s6, a6, s7, a7, s8, a8, s9, a9, s10, a10, s11, q0, q1, q2, q3, q4, q5, q6, q7, q8, q9, q10, ?_⟩
  unfold rdSeat
  rw [rd11_eq]
  simp only [rdN, q0, q1, q2, q3, q4, q5, q6, q7, q8, q9, q10]
/-- What the reference's Load knows behind k seats. -/
structure RLdI (b : List UInt8) (n k : Nat) (L : List SeatS) (s : ScS) : Prop where
  len : L.length = k
  rise : Rise L
  ok : ∀ x ∈ L, SeatOk x
  neg : HN b n k L s
  sok : s.ok
theorem RLdI.zero (b : List UInt8) : RLdI b (ScS.number ⟨b, 0, 0⟩).1 0 [] (ScS.number ⟨b, 0, 0⟩).2 :=
  ⟨rfl, by simp [Rise], (fun x hx => by simp at hx), HN_zero b, (ScS.ok_number (s := ⟨b, 0, 0⟩) ⟨Nat.zero_le _, Nat.zero_le _⟩).1⟩
theorem RLdI.next {b : List UInt8} {n k : Nat} {L : List SeatS} {s : ScS} (h : RLdI b n k L s) (hk : k < n) (hg : SeatOk (rdSeat s).1) (hr : Rise (L ++ [(rdSeat s).1])) : RLdI b n (k + 1) (L ++ [(rdSeat s).1]) (rdSeat s).2 :=
  ⟨by rw [List.length_append, h.len]; rfl, hr, fun x hx => by
    rcases List.mem_append.1 hx with h1 | h1
    · exact h.ok x h1
    · rw [List.mem_singleton.1 h1]; exact hg, h.neg.next hk, rdSeat_ok h.sok⟩
theorem RLdI.no {b : List UInt8} {n k : Nat} {L : List SeatS} {s : ScS} (h : RLdI b n k L s) (hk : ¬ (k < n ∧ k < 9)) (hbad : 8 < L.length ∨ imgL L ≠ b) : ¬ ∃ M, TabOk M ∧ b = imgL M := by
  rintro ⟨M, hM, e⟩
  obtain ⟨h1, h2, -⟩ := h.neg M hM e
  have h3 := hM.len
  have h4 := h.len
  have h5 : L = M := by
    rw [h2, List.take_of_length_le]
    omega
  rcases hbad with h6 | h6
  · rw [h5] at h6; omega
  · rw [h5, e] at h6; exact h6 rfl
def lowB (L : List SeatS) (x : SeatS) : Bool := decide (x.session < 1 ∨ x.at_ < 1 ∨ (0 < L.length ∧ x.session ≤ lastS L))
theorem lastS_at {L : List SeatS} {m : Nat} (h : L.length = m + 1) (hm : m < L.length) : L[m].session = lastS L := by
  unfold lastS
  rw [List.getLast?_eq_getElem?]
  have : L.length - 1 = m := by omega
  rw [this, List.getElem?_eq_getElem hm]
  rfl
def RLdOut (w : World) (e : Ending) (w' : World) : Option (List SeatS) → Prop
  | none => e = .returned (.tuple #[.pointer none, .int .i64 83])
  | some L => ∃ p E, e = .returned (.tuple #[.pointer (some ⟨p, 0, none⟩), .int .i64 0]) ∧ RTab w' p E L
def RLdPost (b : List UInt8) (w : World) (e : Ending) (w' : World) : Prop := ∃ r, LdR b r ∧ RLdOut w e w' r ∧ Ext w w'
theorem RLdPost.no {b : List UInt8} {w w' : World} (h : ¬ ∃ M, TabOk M ∧ b = imgL M) (hx : Ext w w') : RLdPost b w (.returned (.tuple #[.pointer none, .int .i64 83])) w' :=
  ⟨none, ⟨fun _ e => (by cases e), fun _ => h⟩, rfl, hx⟩
theorem RLdPost.yes {b : List UInt8} {w w' : World} {p : Nat} {E : Nat → Prop} {L : List SeatS} (h : TabOk L) (he : imgL L = b) (hx : Ext w w') (ht : RTab w' p E L) : RLdPost b w (.returned (.tuple #[.pointer (some ⟨p, 0, none⟩), .int .i64 0])) w' :=
  ⟨some L, ⟨fun M e => (by cases e; exact ⟨h, he.symm⟩), fun e => (by cases e)⟩, ⟨p, E, rfl, ht⟩, hx⟩
set_option maxRecDepth 100000 in
set_option maxHeartbeats 16000000 in
theorem RLoad_calls (w : World) (S : Nat → Prop) (v : Value) (b : List UInt8) (hr : Rs kByte w S v b) : Calls Try.prog 32 #[v] w (RLdPost b w) := by
  have HR := Lib.hid hr.under
  obtain ⟨A, c, rfl, -⟩ := hr
  go_enter Try.func32, Try.ntmps32
  go_upto_region 2 with fail
  obtain ⟨w1, hw1⟩ : ∃ w1, w1 = w.alloc (.cells #[.slice A b.length c, .int .i64 0, .int .i64 0] 91) := ⟨_, rfl⟩
  obtain ⟨rs, hrs⟩ : ∃ g, g = w.heap.size := ⟨_, rfl⟩
  have HX1 := Lib.hid (show Ext w w1 by rw [hw1]; exact (Ext.refl _).alloc _)
  have HC1 := Lib.hid (show Rc w1 rs (· < w.heap.size) ⟨b, 0, 0⟩ from ⟨_, by rw [hw1]; exact heap_new w rs hrs.symm _, by rw [hw1]; exact HR.out.alloc _, by omega, ⟨Nat.zero_le _, Nat.zero_le _⟩⟩)
  have HRS := Lib.hid hrs
  rw [← hw1, ← hrs]
  clear hw1 hrs
  go_wp2_with fail
  refine (RcNumber_calls w1 rs _ _ HC1.out).mono ?_
  rintro e w2 ⟨rfl, hc2, hu⟩
  have HC2 := Lib.hid hc2
  have HX2 := Lib.hid (hu.ext HX1.out (fun k hk => by have hk' : k = rs := hk; have := HRS.out; omega))
  have HRL := Lib.hid (show rs < w2.heap.size by obtain ⟨_, h1, _⟩ := hc2; exact blk_lt h1)
  have HLD := Lib.hid (RLdI.zero b)
  have hn63 := (ScS.ok_number (s := ⟨b, 0, 0⟩) ⟨Nat.zero_le _, Nat.zero_le _⟩).2
  generalize (ScS.number ⟨b, 0, 0⟩).1 = n at *
  generalize (ScS.number ⟨b, 0, 0⟩).2 = s0 at *
  clear hc2 hu HC1
  go_upto_region 4 with fail
  obtain ⟨w3, hw3⟩ : ∃ w3, w3 = w2.alloc (.cells #[.slice none 0 0] 61) := ⟨_, rfl⟩
  obtain ⟨pt, hpt⟩ : ∃ g, g = w2.heap.size := ⟨_, rfl⟩
  have hx3 : Ext w2 w3 := by rw [hw3]; exact (Ext.refl _).alloc _
  have HX3 := Lib.hid (HX2.out.trans hx3)
  have HC3 := Lib.hid (HC2.out.upd (hx3.upd (fun _ => False)) (fun h => h) (fun _ _ h => h))
  have HP3 := Lib.hid (show w3.heap[pt]? = some (.cells #[.slice none 0 0] 61 (0, 0)) by rw [hw3]; exact heap_new w2 pt hpt.symm _)
  have HPB := Lib.hid (show w.heap.size ≤ pt ∧ rs < pt ∧ w.heap.size ≤ rs from ⟨by have := HX2.out.le; omega, by have := HRL.out; omega, by have := HRS.out; omega⟩)
  rw [← hw3, ← hpt]
  clear hw3 hpt hx3 HC2 HX2 HRL
  go_wp2_with fail
  go_loopw [7] (fun i wr => ∃ (k : Nat) (L : List SeatS) (s : ScS), k ≤ n ∧ k ≤ 9 ∧ i = .int .i64 k ∧ Hid (∃ v, wr.heap[pt]? = some (.cells #[v] 61 (0, 0)) ∧ Ow kSeat 47 wr w.heap.size (fun k => w.heap.size ≤ k ∧ k ≠ pt ∧ k ≠ rs) v L) ∧ Hid (Rc wr rs (· < w.heap.size) s) ∧ Hid (RLdI b n k L s) ∧ Hid (Ext w wr)) (fun i _ => 9 - (intOf i).toNat)
  case atStart => exact ⟨0, [], s0, Nat.zero_le _, by omega, rfl, Lib.hid ⟨_, HP3.out, Ow.nil _ _ _ _ _⟩, HC3, HLD, HX3⟩
  case round =>
    clear HP3 HC3 HLD HX3
    obtain ⟨k, L, s, hk, hk9, rfl, HTB, HC, HLD, HX⟩ := hrel
    by_cases hgo : k < n ∧ k < 9
    · obtain ⟨hlt, hlt9⟩ := hgo
      obtain ⟨a0, s1, a1, s2, a2, s3, a3, s4, a4, s5, a5, s6, a6, s7, a7, s8, a8, s9, a9, s10, a10, s11, q0, q1, q2, q3, q4, q5, q6, q7, q8, q9, q10, eq⟩ := rdSeat_steps s
      have Q0 := Lib.hid q0
      have Q1 := Lib.hid q1
      have Q2 := Lib.hid q2
      have Q3 := Lib.hid q3
      have Q4 := Lib.hid q4
      have Q5 := Lib.hid q5
      have Q6 := Lib.hid q6
      have Q7 := Lib.hid q7
      have Q8 := Lib.hid q8
      have Q9 := Lib.hid q9
      have Q10 := Lib.hid q10
      clear q0 q1 q2 q3 q4 q5 q6 q7 q8 q9 q10
      have HNX := Lib.hid (fun h1 h2 => HLD.out.next hlt h1 h2)
      have HNO := Lib.hid (fun h => HLD.out.neg.no hlt h)
      have HNN := Lib.hid (rdSeat_nums HLD.out.sok)
      have HRI := Lib.hid HLD.out.rise
      have HLEN := Lib.hid HLD.out.len
      rw [eq] at HNX HNO HNN
      clear eq
      go_upto_region 8 with fail
      obtain ⟨v0, hv0⟩ : ∃ w5, w5 = wr.alloc (.cells (seatC (seatOf [])) 47) := ⟨_, rfl⟩
      obtain ⟨g, hg⟩ : ∃ g, g = wr.heap.size := ⟨_, rfl⟩
      have hx5 : Ext wr v0 := by rw [hv0]; exact (Ext.refl _).alloc _
      have U0 := Lib.hid (show Upd (fun k => k = rs) wr v0 from hx5.upd _)
      have C0 := Lib.hid (HC.out.upd (hx5.upd (fun _ => False)) (fun h => h) (fun _ _ h => h))
      have B0 := Lib.hid (show v0.heap[g]? = some (.cells (seatC (seatOf [])) 47 (0, 0)) by rw [hv0]; exact heap_new wr g hg.symm _)
      have HGG := Lib.hid (show wr.heap.size ≤ g ∧ rs < g ∧ pt < g ∧ w.heap.size ≤ g ∧ g = wr.heap.size from by
        obtain ⟨_, h1, _⟩ := HC.out
        obtain ⟨_, h2, _⟩ := HTB.out
        have h3 := blk_lt h1
        have h4 := blk_lt h2
        have h5 := HX.out.le
        exact ⟨by omega, by omega, by omega, by omega, hg⟩)
      unfold seatC seatOf at hv0
      simp only [List.getD_nil] at hv0
      rw [← hv0, ← hg]
      clear hv0 hg hx5 HC
      go_wp2_with fail
      refine (RcNumber_calls v0 rs _ s C0.out).mono ?_
      rw [Q0.out]
      rintro e u0 ⟨rfl, hc, hu⟩
      have hb := blk_upd B0.out hu (fun e => by have e' : g = rs := e; have := HGG.out; omega)
      have D0 := Lib.hid hb
      have E0 := Lib.hid hc
      have V0 := Lib.hid (U0.out.trans (hu.mono (T := fun k => k = rs) (fun k h => h)))
      have z : u0.cell? ⟨g, 0, none⟩ = some (.int .i64 0) := cell_blk hb 0
      have f : u0.frozen? ⟨g, 0, none⟩ = false := frozen_blk hb 0
      clear hc hu hb
      dsimp only
      go_upto_region 9 with fail
      obtain ⟨v1, hv⟩ : ∃ W, W = u0.setCell ⟨g, 0, none⟩ (.int .i64 (a0 : Int)) := ⟨_, rfl⟩
      have hu' : Upd (fun k => k = g) u0 v1 := by rw [hv]; exact (Upd.refl (fun k => k = g) _).set (.inl rfl) _
      have B1 := Lib.hid (show v1.heap[g]? = some (.cells (seatC (seatOf [(a0 : Int)])) 47 (0, 0)) by rw [hv, heap_setCell_same u0 g 0 _ _ (.int .i64 (a0 : Int)) D0.out]; rfl)
      have C1 := Lib.hid (E0.out.upd hu' (fun e => by have e' : rs = g := e; have := HGG.out; omega) (fun k hk e => by have e' : k = g := e; have := HGG.out; omega))
      have U1 := Lib.hid (show Upd (fun k => k = rs) wr v1 by rw [hv]; exact V0.out.set (.inr HGG.out.1) _)
      rw [← hv]
      clear hv hu' z f D0 E0 V0 B0 C0 U0
      go_wp2_with fail
      refine (RcNumber_calls v1 rs _ s1 C1.out).mono ?_
      rw [Q1.out]
      rintro e u1 ⟨rfl, hc, hu⟩
      have hb := blk_upd B1.out hu (fun e => by have e' : g = rs := e; have := HGG.out; omega)
      have D1 := Lib.hid hb
      have E1 := Lib.hid hc
      have V1 := Lib.hid (U1.out.trans (hu.mono (T := fun k => k = rs) (fun k h => h)))
      have z : u1.cell? ⟨g, 1, none⟩ = some (.int .i64 0) := cell_blk hb 1
      have f : u1.frozen? ⟨g, 1, none⟩ = false := frozen_blk hb 1
      clear hc hu hb
      dsimp only
      go_upto_region 10 with fail
      obtain ⟨v2, hv⟩ : ∃ W, W = u1.setCell ⟨g, 1, none⟩ (.int .i64 (a1 : Int)) := ⟨_, rfl⟩
      have hu' : Upd (fun k => k = g) u1 v2 := by rw [hv]; exact (Upd.refl (fun k => k = g) _).set (.inl rfl) _
      have B2 := Lib.hid (show v2.heap[g]? = some (.cells (seatC (seatOf [(a0 : Int), (a1 : Int)])) 47 (0, 0)) by rw [hv, heap_setCell_same u1 g 1 _ _ (.int .i64 (a1 : Int)) D1.out]; rfl)
      have C2 := Lib.hid (E1.out.upd hu' (fun e => by have e' : rs = g := e; have := HGG.out; omega) (fun k hk e => by have e' : k = g := e; have := HGG.out; omega))
      have U2 := Lib.hid (show Upd (fun k => k = rs) wr v2 by rw [hv]; exact V1.out.set (.inr HGG.out.1) _)
      rw [← hv]
      clear hv hu' z f D1 E1 V1 B1 C1 U1
      go_wp2_with fail
      refine (RcNumber_calls v2 rs _ s2 C2.out).mono ?_
      rw [Q2.out]
      rintro e u2 ⟨rfl, hc, hu⟩
      have hb := blk_upd B2.out hu (fun e => by have e' : g = rs := e; have := HGG.out; omega)
      have D2 := Lib.hid hb
      have E2 := Lib.hid hc
      have V2 := Lib.hid (U2.out.trans (hu.mono (T := fun k => k = rs) (fun k h => h)))
      have z : u2.cell? ⟨g, 2, none⟩ = some (.int .i64 0) := cell_blk hb 2
      have f : u2.frozen? ⟨g, 2, none⟩ = false := frozen_blk hb 2
      clear hc hu hb
      dsimp only
      go_upto_region 11 with fail
      obtain ⟨v3, hv⟩ : ∃ W, W = u2.setCell ⟨g, 2, none⟩ (.int .i64 (a2 : Int)) := ⟨_, rfl⟩
      have hu' : Upd (fun k => k = g) u2 v3 := by rw [hv]; exact (Upd.refl (fun k => k = g) _).set (.inl rfl) _
      have B3 := Lib.hid (show v3.heap[g]? = some (.cells (seatC (seatOf [(a0 : Int), (a1 : Int), (a2 : Int)])) 47 (0, 0)) by rw [hv, heap_setCell_same u2 g 2 _ _ (.int .i64 (a2 : Int)) D2.out]; rfl)
      have C3 := Lib.hid (E2.out.upd hu' (fun e => by have e' : rs = g := e; have := HGG.out; omega) (fun k hk e => by have e' : k = g := e; have := HGG.out; omega))
      have U3 := Lib.hid (show Upd (fun k => k = rs) wr v3 by rw [hv]; exact V2.out.set (.inr HGG.out.1) _)
      rw [← hv]
      clear hv hu' z f D2 E2 V2 B2 C2 U2
      go_wp2_with fail
      refine (RcNumber_calls v3 rs _ s3 C3.out).mono ?_
      rw [Q3.out]
      rintro e u3 ⟨rfl, hc, hu⟩
      have hb := blk_upd B3.out hu (fun e => by have e' : g = rs := e; have := HGG.out; omega)
      have D3 := Lib.hid hb
      have E3 := Lib.hid hc
      have V3 := Lib.hid (U3.out.trans (hu.mono (T := fun k => k = rs) (fun k h => h)))
      have z : u3.cell? ⟨g, 3, none⟩ = some (.int .i64 0) := cell_blk hb 3
      have f : u3.frozen? ⟨g, 3, none⟩ = false := frozen_blk hb 3
      clear hc hu hb
      dsimp only
      go_upto_region 12 with fail
      obtain ⟨v4, hv⟩ : ∃ W, W = u3.setCell ⟨g, 3, none⟩ (.int .i64 (a3 : Int)) := ⟨_, rfl⟩
      have hu' : Upd (fun k => k = g) u3 v4 := by rw [hv]; exact (Upd.refl (fun k => k = g) _).set (.inl rfl) _
      have B4 := Lib.hid (show v4.heap[g]? = some (.cells (seatC (seatOf [(a0 : Int), (a1 : Int), (a2 : Int), (a3 : Int)])) 47 (0, 0)) by rw [hv, heap_setCell_same u3 g 3 _ _ (.int .i64 (a3 : Int)) D3.out]; rfl)
      have C4 := Lib.hid (E3.out.upd hu' (fun e => by have e' : rs = g := e; have := HGG.out; omega) (fun k hk e => by have e' : k = g := e; have := HGG.out; omega))
      have U4 := Lib.hid (show Upd (fun k => k = rs) wr v4 by rw [hv]; exact V3.out.set (.inr HGG.out.1) _)
      rw [← hv]
      clear hv hu' z f D3 E3 V3 B3 C3 U3
      go_wp2_with fail
      refine (RcNumber_calls v4 rs _ s4 C4.out).mono ?_
      rw [Q4.out]
      rintro e u4 ⟨rfl, hc, hu⟩
      have hb := blk_upd B4.out hu (fun e => by have e' : g = rs := e; have := HGG.out; omega)
      have D4 := Lib.hid hb
      have E4 := Lib.hid hc
      have V4 := Lib.hid (U4.out.trans (hu.mono (T := fun k => k = rs) (fun k h => h)))
      have z : u4.cell? ⟨g, 4, none⟩ = some (.int .i64 0) := cell_blk hb 4
      have f : u4.frozen? ⟨g, 4, none⟩ = false := frozen_blk hb 4
      clear hc hu hb
      dsimp only
      go_upto_region 13 with fail
      obtain ⟨v5, hv⟩ : ∃ W, W = u4.setCell ⟨g, 4, none⟩ (.int .i64 (a4 : Int)) := ⟨_, rfl⟩
      have hu' : Upd (fun k => k = g) u4 v5 := by rw [hv]; exact (Upd.refl (fun k => k = g) _).set (.inl rfl) _
      have B5 := Lib.hid (show v5.heap[g]? = some (.cells (seatC (seatOf [(a0 : Int), (a1 : Int), (a2 : Int), (a3 : Int), (a4 : Int)])) 47 (0, 0)) by rw [hv, heap_setCell_same u4 g 4 _ _ (.int .i64 (a4 : Int)) D4.out]; rfl)
      have C5 := Lib.hid (E4.out.upd hu' (fun e => by have e' : rs = g := e; have := HGG.out; omega) (fun k hk e => by have e' : k = g := e; have := HGG.out; omega))
      have U5 := Lib.hid (show Upd (fun k => k = rs) wr v5 by rw [hv]; exact V4.out.set (.inr HGG.out.1) _)
      rw [← hv]
      clear hv hu' z f D4 E4 V4 B4 C4 U4
      go_wp2_with fail
      refine (RcNumber_calls v5 rs _ s5 C5.out).mono ?_
      rw [Q5.out]
      rintro e u5 ⟨rfl, hc, hu⟩
      have hb := blk_upd B5.out hu (fun e => by have e' : g = rs := e; have := HGG.out; omega)
      have D5 := Lib.hid hb
      have E5 := Lib.hid hc
      have V5 := Lib.hid (U5.out.trans (hu.mono (T := fun k => k = rs) (fun k h => h)))
      have z : u5.cell? ⟨g, 5, none⟩ = some (.int .i64 0) := cell_blk hb 5
      have f : u5.frozen? ⟨g, 5, none⟩ = false := frozen_blk hb 5
      clear hc hu hb
      dsimp only
      go_upto_region 14 with fail
      obtain ⟨v6, hv⟩ : ∃ W, W = u5.setCell ⟨g, 5, none⟩ (.int .i64 (a5 : Int)) := ⟨_, rfl⟩
      have hu' : Upd (fun k => k = g) u5 v6 := by rw [hv]; exact (Upd.refl (fun k => k = g) _).set (.inl rfl) _
      have B6 := Lib.hid (show v6.heap[g]? = some (.cells (seatC (seatOf [(a0 : Int), (a1 : Int), (a2 : Int), (a3 : Int), (a4 : Int), (a5 : Int)])) 47 (0, 0)) by rw [hv, heap_setCell_same u5 g 5 _ _ (.int .i64 (a5 : Int)) D5.out]; rfl)
      have C6 := Lib.hid (E5.out.upd hu' (fun e => by have e' : rs = g := e; have := HGG.out; omega) (fun k hk e => by have e' : k = g := e; have := HGG.out; omega))
      have U6 := Lib.hid (show Upd (fun k => k = rs) wr v6 by rw [hv]; exact V5.out.set (.inr HGG.out.1) _)
      rw [← hv]
      clear hv hu' z f D5 E5 V5 B5 C5 U5
      go_wp2_with fail
      refine (RcNumber_calls v6 rs _ s6 C6.out).mono ?_
      rw [Q6.out]
      rintro e u6 ⟨rfl, hc, hu⟩
      have hb := blk_upd B6.out hu (fun e => by have e' : g = rs := e; have := HGG.out; omega)
      have D6 := Lib.hid hb
      have E6 := Lib.hid hc
      have V6 := Lib.hid (U6.out.trans (hu.mono (T := fun k => k = rs) (fun k h => h)))
      have z : u6.cell? ⟨g, 6, none⟩ = some (.int .i64 0) := cell_blk hb 6
      have f : u6.frozen? ⟨g, 6, none⟩ = false := frozen_blk hb 6
      clear hc hu hb
      dsimp only
      go_upto_region 15 with fail
      obtain ⟨v7, hv⟩ : ∃ W, W = u6.setCell ⟨g, 6, none⟩ (.int .i64 (a6 : Int)) := ⟨_, rfl⟩
      have hu' : Upd (fun k => k = g) u6 v7 := by rw [hv]; exact (Upd.refl (fun k => k = g) _).set (.inl rfl) _
      have B7 := Lib.hid (show v7.heap[g]? = some (.cells (seatC (seatOf [(a0 : Int), (a1 : Int), (a2 : Int), (a3 : Int), (a4 : Int), (a5 : Int), (a6 : Int)])) 47 (0, 0)) by rw [hv, heap_setCell_same u6 g 6 _ _ (.int .i64 (a6 : Int)) D6.out]; rfl)
      have C7 := Lib.hid (E6.out.upd hu' (fun e => by have e' : rs = g := e; have := HGG.out; omega) (fun k hk e => by have e' : k = g := e; have := HGG.out; omega))
      have U7 := Lib.hid (show Upd (fun k => k = rs) wr v7 by rw [hv]; exact V6.out.set (.inr HGG.out.1) _)
      rw [← hv]
      clear hv hu' z f D6 E6 V6 B6 C6 U6
      go_wp2_with fail
      refine (RcNumber_calls v7 rs _ s7 C7.out).mono ?_
      rw [Q7.out]
      rintro e u7 ⟨rfl, hc, hu⟩
      have hb := blk_upd B7.out hu (fun e => by have e' : g = rs := e; have := HGG.out; omega)
      have D7 := Lib.hid hb
      have E7 := Lib.hid hc
      have V7 := Lib.hid (U7.out.trans (hu.mono (T := fun k => k = rs) (fun k h => h)))
      have z : u7.cell? ⟨g, 7, none⟩ = some (.int .i64 0) := cell_blk hb 7
      have f : u7.frozen? ⟨g, 7, none⟩ = false := frozen_blk hb 7
      clear hc hu hb
      dsimp only
      go_upto_region 16 with fail
      obtain ⟨v8, hv⟩ : ∃ W, W = u7.setCell ⟨g, 7, none⟩ (.int .i64 (a7 : Int)) := ⟨_, rfl⟩
      have hu' : Upd (fun k => k = g) u7 v8 := by rw [hv]; exact (Upd.refl (fun k => k = g) _).set (.inl rfl) _
      have B8 := Lib.hid (show v8.heap[g]? = some (.cells (seatC (seatOf [(a0 : Int), (a1 : Int), (a2 : Int), (a3 : Int), (a4 : Int), (a5 : Int), (a6 : Int), (a7 : Int)])) 47 (0, 0)) by rw [hv, heap_setCell_same u7 g 7 _ _ (.int .i64 (a7 : Int)) D7.out]; rfl)
      have C8 := Lib.hid (E7.out.upd hu' (fun e => by have e' : rs = g := e; have := HGG.out; omega) (fun k hk e => by have e' : k = g := e; have := HGG.out; omega))
      have U8 := Lib.hid (show Upd (fun k => k = rs) wr v8 by rw [hv]; exact V7.out.set (.inr HGG.out.1) _)
      rw [← hv]
      clear hv hu' z f D7 E7 V7 B7 C7 U7
      go_wp2_with fail
      refine (RcNumber_calls v8 rs _ s8 C8.out).mono ?_
      rw [Q8.out]
      rintro e u8 ⟨rfl, hc, hu⟩
      have hb := blk_upd B8.out hu (fun e => by have e' : g = rs := e; have := HGG.out; omega)
      have D8 := Lib.hid hb
      have E8 := Lib.hid hc
      have V8 := Lib.hid (U8.out.trans (hu.mono (T := fun k => k = rs) (fun k h => h)))
      have z : u8.cell? ⟨g, 8, none⟩ = some (.int .i64 0) := cell_blk hb 8
      have f : u8.frozen? ⟨g, 8, none⟩ = false := frozen_blk hb 8
      clear hc hu hb
      dsimp only
      go_upto_region 17 with fail
      obtain ⟨v9, hv⟩ : ∃ W, W = u8.setCell ⟨g, 8, none⟩ (.int .i64 (a8 : Int)) := ⟨_, rfl⟩
      have hu' : Upd (fun k => k = g) u8 v9 := by rw [hv]; exact (Upd.refl (fun k => k = g) _).set (.inl rfl) _
      have B9 := Lib.hid (show v9.heap[g]? = some (.cells (seatC (seatOf [(a0 : Int), (a1 : Int), (a2 : Int), (a3 : Int), (a4 : Int), (a5 : Int), (a6 : Int), (a7 : Int), (a8 : Int)])) 47 (0, 0)) by rw [hv, heap_setCell_same u8 g 8 _ _ (.int .i64 (a8 : Int)) D8.out]; rfl)
      have C9 := Lib.hid (E8.out.upd hu' (fun e => by have e' : rs = g := e; have := HGG.out; omega) (fun k hk e => by have e' : k = g := e; have := HGG.out; omega))
      have U9 := Lib.hid (show Upd (fun k => k = rs) wr v9 by rw [hv]; exact V8.out.set (.inr HGG.out.1) _)
      rw [← hv]
      clear hv hu' z f D8 E8 V8 B8 C8 U8
      go_wp2_with fail
      refine (RcNumber_calls v9 rs _ s9 C9.out).mono ?_
      rw [Q9.out]
      rintro e u9 ⟨rfl, hc, hu⟩
      have hb := blk_upd B9.out hu (fun e => by have e' : g = rs := e; have := HGG.out; omega)
      have D9 := Lib.hid hb
      have E9 := Lib.hid hc
      have V9 := Lib.hid (U9.out.trans (hu.mono (T := fun k => k = rs) (fun k h => h)))
      have z : u9.cell? ⟨g, 9, none⟩ = some (.int .i64 0) := cell_blk hb 9
      have f : u9.frozen? ⟨g, 9, none⟩ = false := frozen_blk hb 9
      clear hc hu hb
      dsimp only
      go_upto_region 18 with fail
      obtain ⟨v10, hv⟩ : ∃ W, W = u9.setCell ⟨g, 9, none⟩ (.int .i64 (a9 : Int)) := ⟨_, rfl⟩
      have hu' : Upd (fun k => k = g) u9 v10 := by rw [hv]; exact (Upd.refl (fun k => k = g) _).set (.inl rfl) _
      have B10 := Lib.hid (show v10.heap[g]? = some (.cells (seatC (seatOf [(a0 : Int), (a1 : Int), (a2 : Int), (a3 : Int), (a4 : Int), (a5 : Int), (a6 : Int), (a7 : Int), (a8 : Int), (a9 : Int)])) 47 (0, 0)) by rw [hv, heap_setCell_same u9 g 9 _ _ (.int .i64 (a9 : Int)) D9.out]; rfl)
      have C10 := Lib.hid (E9.out.upd hu' (fun e => by have e' : rs = g := e; have := HGG.out; omega) (fun k hk e => by have e' : k = g := e; have := HGG.out; omega))
      have U10 := Lib.hid (show Upd (fun k => k = rs) wr v10 by rw [hv]; exact V9.out.set (.inr HGG.out.1) _)
      rw [← hv]
      clear hv hu' z f D9 E9 V9 B9 C9 U9
      go_wp2_with fail
      refine (RcNumber_calls v10 rs _ s10 C10.out).mono ?_
      rw [Q10.out]
      rintro e u10 ⟨rfl, hc, hu⟩
      have hb := blk_upd B10.out hu (fun e => by have e' : g = rs := e; have := HGG.out; omega)
      have D10 := Lib.hid hb
      have E10 := Lib.hid hc
      have V10 := Lib.hid (U10.out.trans (hu.mono (T := fun k => k = rs) (fun k h => h)))
      have z : u10.cell? ⟨g, 10, none⟩ = some (.int .i64 0) := cell_blk hb 10
      have f : u10.frozen? ⟨g, 10, none⟩ = false := frozen_blk hb 10
      clear hc hu hb
      dsimp only
      go_upto_region 19 with fail
      obtain ⟨v11, hv⟩ : ∃ W, W = u10.setCell ⟨g, 10, none⟩ (.int .i64 (a10 : Int)) := ⟨_, rfl⟩
      have hu' : Upd (fun k => k = g) u10 v11 := by rw [hv]; exact (Upd.refl (fun k => k = g) _).set (.inl rfl) _
      have B11 := Lib.hid (show v11.heap[g]? = some (.cells (seatC (seatOf [(a0 : Int), (a1 : Int), (a2 : Int), (a3 : Int), (a4 : Int), (a5 : Int), (a6 : Int), (a7 : Int), (a8 : Int), (a9 : Int), (a10 : Int)])) 47 (0, 0)) by rw [hv, heap_setCell_same u10 g 10 _ _ (.int .i64 (a10 : Int)) D10.out]; rfl)
      have C11 := Lib.hid (E10.out.upd hu' (fun e => by have e' : rs = g := e; have := HGG.out; omega) (fun k hk e => by have e' : k = g := e; have := HGG.out; omega))
      have U11 := Lib.hid (show Upd (fun k => k = rs) wr v11 by rw [hv]; exact V10.out.set (.inr HGG.out.1) _)
      rw [← hv]
      clear hv hu' z f D10 E10 V10 B10 C10 U10
      obtain ⟨x, hx⟩ : ∃ x, x = seatOf [(a0 : Int), (a1 : Int), (a2 : Int), (a3 : Int), (a4 : Int), (a5 : Int), (a6 : Int), (a7 : Int), (a8 : Int), (a9 : Int), (a10 : Int)] := ⟨_, rfl⟩
      rw [← hx] at B11 HNX HNO HNN
      obtain ⟨tv, htb, how⟩ := HTB.out
      have HP := Lib.hid (blk_upd htb U11.out (fun e => by have e' : pt = rs := e; have := HPB.out; omega))
      have HO := Lib.hid ((how.bound.mono (S' := fun k => w.heap.size ≤ k ∧ k ≠ pt ∧ k ≠ rs ∧ k ≠ g) (fun k hk => ⟨hk.1.1, hk.1.2.1, hk.1.2.2, by have h1 := hk.2; have h2 := HGG.out; omega⟩)).upd U11.out (fun k hk e => hk.2.2.1 e))
      obtain ⟨A2, c2, rfl, -⟩ := how.rs
      have HX11 := Lib.hid (U11.out.ext HX.out (fun k hk => by have hk' : k = rs := hk; have := HPB.out; omega))
      have hsq0 : 0 ≤ x.seq := (HNN.out x.seq (by simp [SeatS.nums])).1
      have hat0 : 0 ≤ x.at_ ∧ x.at_ < 9223372036854775808 := HNN.out x.at_ (by simp [SeatS.nums])
      have hse0 : 0 ≤ x.session ∧ x.session < 9223372036854775808 := HNN.out x.session (by simp [SeatS.nums])
      have hrI : ReplyI x.r := by
        have g : ∀ n ∈ x.r.nums, I64 n := fun n hn => by
          have h1 := HNN.out n (by unfold SeatS.nums; exact List.mem_cons_of_mem _ (List.mem_cons_of_mem _ (List.mem_cons_of_mem _ hn)))
          exact ⟨by omega, by omega⟩
        unfold ReplyS.nums at g
        simp only [List.mem_cons, List.not_mem_nil, or_false, forall_eq_or_imp, forall_eq] at g
        obtain ⟨g0, g1, g2, g3, g4, g5, g6, g7⟩ := g
        exact ⟨g0, g1, g2, g3, g4, g5, g6, g7⟩
      have HRP := Lib.hid hrI
      have HLK := Lib.hid HLEN.out
      clear hx htb how HTB U11 HX HNN hrI Q0 Q1 Q2 Q3 Q4 Q5 Q6 Q7 Q8 Q9 Q10
      have CC := Lib.hid (show Rc v11 rs (· < w.heap.size) s11 from C11.out)
      clear C11
      go_cut [9] (fun s9 wx => s9 = .bool (lowB L x) ∧ ∃ m, Hid (wx = v11.drewN m))
      case first =>
        have z0 : v11.cell? ⟨g, 0, none⟩ = some (.int .i64 x.session) := cell_blk B11.out 0
        have z2 : v11.cell? ⟨g, 2, none⟩ = some (.int .i64 x.at_) := cell_blk B11.out 2
        have zp : v11.cell? ⟨pt, 0, none⟩ = some (.slice A2 L.length c2) := cell_blk HP.out 0
        by_cases h1 : x.session < 1
        · have HB := Lib.hid (show lowB L x = true from decide_eq_true (.inl h1))
          have hd1 : decide (x.session < 1) = true := decide_eq_true h1
          go_quiet (fail)
          go_wp2_with fail
          go_meet
          exact ⟨by rw [HB.out], _, Lib.hid rfl⟩
        have hd1 : decide (x.session < 1) = false := decide_eq_false h1
        by_cases h2 : x.at_ < 1
        · have HB := Lib.hid (show lowB L x = true from decide_eq_true (.inr (.inl h2)))
          have hd2 : decide (x.at_ < 1) = true := decide_eq_true h2
          go_quiet (fail)
          go_wp2_with fail
          go_meet
          exact ⟨by rw [HB.out], _, Lib.hid rfl⟩
        have hd2 : decide (x.at_ < 1) = false := decide_eq_false h2
        by_cases h3 : 0 < k
        · obtain ⟨m, hm⟩ : ∃ m, k = m + 1 := ⟨k - 1, by omega⟩
          have hml : m < L.length := by rw [HLEN.out]; omega
          have HLM := Lib.hid (lastS_at (by rw [HLEN.out]; exact hm) hml)
          obtain ⟨_, _, ev, -, -, -, hrow⟩ := HO.out.rs
          simp only [Value.slice.injEq] at ev
          obtain ⟨rfl, -, rfl⟩ := ev
          obtain ⟨ad, rfl, -, -, -, hcs⟩ := hrow.seat hml
          obtain ⟨y0, -⟩ := seat_at hcs
          rw [HLM.out] at y0
          have hd3 : decide ((0 : Int) < (k : Int)) = true := decide_eq_true (by omega)
          have hd3' : decide (0 < k) = true := decide_eq_true h3
          have hi1 : wrap64 ((k : Int) - 1) = (m : Int) := by rw [IntWalk.wrap64_in _ (by omega)]; omega
          have hi2 : IntKind.i64.wrap ((k : Int) - 1) = (m : Int) := by rw [IntWalk.i64_in _ (by omega)]; omega
          have hlen : L.length = k := HLEN.out
          have hml' : (m : Int) < (L.length : Int) := by omega
          clear hcs hrow hm hlen
          by_cases h4 : x.session ≤ lastS L
          · have HB := Lib.hid (show lowB L x = true from decide_eq_true (.inr (.inr ⟨by omega, h4⟩)))
            have hd4 : decide (x.session ≤ lastS L) = true := decide_eq_true h4
            go_quiet (fail)
            go_wp2_with fail
            go_meet
            exact ⟨by rw [HB.out], _, Lib.hid rfl⟩
          · have HB := Lib.hid (show lowB L x = false from decide_eq_false (by rintro (h | h | h); exact h1 h; exact h2 h; exact h4 h.2))
            have hd4 : decide (x.session ≤ lastS L) = false := decide_eq_false h4
            go_quiet (fail)
            go_wp2_with fail
            go_meet
            exact ⟨by rw [HB.out], _, Lib.hid rfl⟩
        · have HB := Lib.hid (show lowB L x = false from decide_eq_false (by rintro (h | h | h); exact h1 h; exact h2 h; have := h.1; rw [HLEN.out] at this; omega))
          have hd3 : decide ((0 : Int) < (k : Int)) = false := decide_eq_false (by omega)
          have hd3' : decide (0 < k) = false := decide_eq_false h3
          go_quiet (fail)
          go_wp2_with fail
          go_meet
          exact ⟨by rw [HB.out], _, Lib.hid rfl⟩
      case rest =>
        obtain ⟨e9, mm, hwc⟩ := hcut
        subst e9
        have HX12 := Lib.hid (show Ext w wc by rw [hwc.out]; exact HX11.out.drewN mm)
        have B12 := Lib.hid (show wc.heap[g]? = some (.cells (seatC x) 47 (0, 0)) by rw [hwc.out]; exact B11.out)
        have P12 := Lib.hid (show wc.heap[pt]? = some (.cells #[.slice A2 L.length c2] 61 (0, 0)) by rw [hwc.out]; exact HP.out)
        have O12 := Lib.hid (show Ow kSeat 47 wc w.heap.size (fun k => w.heap.size ≤ k ∧ k ≠ pt ∧ k ≠ rs ∧ k ≠ g) (.slice A2 L.length c2) L by rw [hwc.out]; exact HO.out.drewN mm)
        have C12 := Lib.hid (show Rc wc rs (· < w.heap.size) s11 by rw [hwc.out]; exact CC.out.drewN mm)
        clear hwc HX11 B11 HP HO CC
        have z0 : wc.cell? ⟨g, 0, none⟩ = some (.int .i64 x.session) := cell_blk B12.out 0
        have z1 : wc.cell? ⟨g, 1, none⟩ = some (.int .i64 x.seq) := cell_blk B12.out 1
        have z2 : wc.cell? ⟨g, 2, none⟩ = some (.int .i64 x.at_) := cell_blk B12.out 2
        obtain ⟨z3, z4, z5, z6, z7, z8, z9, z10⟩ : wc.cell? ⟨g, 3, none⟩ = some (.int .i64 x.r.err) ∧ wc.cell? ⟨g, 4, none⟩ = some (.int .i64 x.r.session) ∧ wc.cell? ⟨g, 5, none⟩ = some (.int .i64 x.r.gone) ∧ wc.cell? ⟨g, 6, none⟩ = some (.int .i64 x.r.added) ∧ wc.cell? ⟨g, 7, none⟩ = some (.int .i64 x.r.same) ∧ wc.cell? ⟨g, 8, none⟩ = some (.int .i64 x.r.other) ∧ wc.cell? ⟨g, 9, none⟩ = some (.int .i64 x.r.cycle) ∧ wc.cell? ⟨g, 10, none⟩ = some (.int .i64 x.r.full) :=
          ⟨cell_blk B12.out 3, cell_blk B12.out 4, cell_blk B12.out 5, cell_blk B12.out 6, cell_blk B12.out 7, cell_blk B12.out 8, cell_blk B12.out 9, cell_blk B12.out 10⟩
        cases hlow : lowB L x
        · have hnl : ¬ (x.session < 1 ∨ x.at_ < 1 ∨ (0 < L.length ∧ x.session ≤ lastS L)) := of_decide_eq_false hlow
          by_cases h1 : 1099511627776 < x.session
          · have HF := Lib.hid (HNO.out (fun h => by have := (idxF_iff.1 h.1.session).2; omega))
            clear HNO hlow hnl
            go_wp2_with fail
            go_ret2
            exact RLdPost.no HF.out HX12.out
          by_cases h2 : 1099511627776 < x.seq
          · have HF := Lib.hid (HNO.out (fun h => by have := h.1.seq.2; omega))
            clear HNO hlow hnl
            go_wp2_with fail
            go_ret2
            exact RLdPost.no HF.out HX12.out
          by_cases h3 : 1099511627776 < x.at_
          · have HF := Lib.hid (HNO.out (fun h => by have := (idxF_iff.1 h.1.at_).2; omega))
            clear HNO hlow hnl
            go_wp2_with fail
            go_ret2
            exact RLdPost.no HF.out HX12.out
          have HNL := Lib.hid hnl
          clear hlow hnl
          go_wp2_with fail
          refine (RCheck_calls wc x.r HRP.out).mono ?_
          unfold chk8E
          cases hc : chkR8 x.r
          · simp only [Bool.false_eq_true, if_false]
            rintro e w6 ⟨rfl, hx6⟩
            have HX13 := Lib.hid (HX12.out.trans hx6)
            have HF := Lib.hid (HNO.out (fun h => by have h2 := h.1.r; rw [hc] at h2; cases h2))
            clear HNO hx6 hc z0 z1 z2 z3 z4 z5 z6 z7 z8 z9 z10
            go_wp2_with fail
            go_ret2
            exact RLdPost.no HF.out HX13.out
          · simp only [if_true]
            rintro e w6 ⟨rfl, hx6⟩
            have hnl := HNL.out
            have HSO : SeatOk x := ⟨idxF_iff.2 ⟨by omega, by omega⟩, idxF_iff.2 ⟨by omega, by omega⟩, ⟨hsq0, by omega⟩, hc⟩
            have HRS2 := Lib.hid (show Rise (L ++ [x]) from by
              refine rise_snoc HRI.out ?_
              rcases Nat.eq_zero_or_pos L.length with h | h
              · have : L = [] := List.eq_nil_of_length_eq_zero h
                rw [this]
                show (0 : Int) < _
                omega
              · omega)
            have HLD6 := Lib.hid (HNX.out HSO HRS2.out)
            have HXI := Lib.hid HSO.i
            have HX13 := Lib.hid (HX12.out.trans hx6)
            have B13 := Lib.hid (blk_ext B12.out hx6)
            have P13 := Lib.hid (blk_ext P12.out hx6)
            have O14 := Lib.hid (O12.out.ext hx6)
            have C13 := Lib.hid (C12.out.upd (hx6.upd (fun _ => False)) (fun h => h) (fun _ _ h => h))
            have HW := Lib.hid (show wc.heap.size ≤ w6.heap.size from hx6.le)
            clear hx6 hc HSO hnl HX12 B12 P12 O12 C12 HNO HNX z0 z1 z2 z3 z4 z5 z6 z7 z8 z9 z10 h1 h2 h3
            go_upto_region 22 with fail
            refine sld22 pt g w.heap.size (fun k => w.heap.size ≤ k ∧ k ≠ pt ∧ k ≠ rs ∧ k ≠ g) A2 c2 L x HXI.out (by rw [HLK.out]; omega) B13 P13 O14 (fun j hj => by have h1 := HGG.out; have h2 := HPB.out; have h3 := blk_lt B13.out; have h4 := blk_lt P13.out; exact ⟨by omega, by omega, by omega, by omega⟩) (by have h1 := HX13.out.le; exact h1) (fun h => h.2.2.2 rfl) (fun h => h.2.1 rfl) (by have := HGG.out; omega) ?_
            intros
            rename_i w7 hrel
            obtain ⟨v7, hp7, ho7, hx7, hk7⟩ := hrel.out
            have HP7 := Lib.hid hp7
            have HO7 := Lib.hid (ho7.mono (S' := fun k => w.heap.size ≤ k ∧ k ≠ pt ∧ k ≠ rs) (fun j hj => ⟨hj.1, hj.2.1, hj.2.2.1⟩))
            have HX7 := Lib.hid (hx7 w HX13.out (Nat.le_refl _) (by have := HPB.out; omega))
            have C7 := Lib.hid (show Rc w7 rs (· < w.heap.size) s11 from by
                  obtain ⟨vr, hr1, hr2, hr3, hr4⟩ := C13.out
                  have hw := HX13.out.le
                  refine ⟨vr, hk7 rs _ hr1 (fun h => h.2.2.1 rfl) (by have := HPB.out; omega), hr2.keep fun j hj hl => ?_, hr3, hr4⟩
                  rw [hk7 j _ (Array.getElem?_eq_getElem hl) (fun h => by have := h.1; omega) (by have := HPB.out; omega)]
                  exact (Array.getElem?_eq_getElem hl).symm)
            clear hrel hp7 ho7 hx7 hk7
            go_wp2_with fail
            go_roundw
            case rel => exact ⟨k + 1, L ++ [x], s11, by omega, by omega, by go_num, Lib.hid ⟨v7, HP7.out, HO7.out⟩, C7, HLD6, HX7⟩
            case measure => simp [intOf]; omega
        · have hl : x.session < 1 ∨ x.at_ < 1 ∨ (0 < L.length ∧ x.session ≤ lastS L) := of_decide_eq_true hlow
          have HF := Lib.hid (HNO.out (fun h => by
            have h1 := (idxF_iff.1 h.1.session).1
            have h2 := (idxF_iff.1 h.1.at_).1
            have h3 := snoc_last h.2.2 h1
            omega))
          clear HNO hlow hl
          go_wp2_with fail
          go_ret2
          exact RLdPost.no HF.out HX12.out
    · obtain ⟨tv, htb, how⟩ := HTB.out
      obtain ⟨A2, c2, rfl, -⟩ := how.rs
      have HP := Lib.hid htb
      have HO := Lib.hid how
      have HKL := Lib.hid HLD.out.len
      have HRT := Lib.hid (show RTab wr pt (fun j => j = pt ∨ j = rs) L from ⟨_, HP.out, HO.out.rs.mono (fun j hj h => by rcases h with h | h; exact hj.2.1 h; exact hj.2.2 h), .inl rfl⟩)
      have HLI := Lib.hid (fun x hx => (HLD.out.ok x hx).i)
      have HRB := Lib.hid (HR.out.ext HX.out)
      have HL9 := Lib.hid (show L.length ≤ 9 by rw [HKL.out]; exact hk9)
      clear htb how HTB HC
      by_cases hkn : k < n
      · have hk9' : ¬ (k : Int) < 9 := by omega
        go_upto_region 23 with fail
        refine sld23 pt (fun j => j = pt ∨ j = rs) _ A2 A c2 c L b HLI.out HL9.out HP HRT HRB ?_
        intros
        rename_i w7 hrel
        have HX7 := Lib.hid (HX.out.trans hrel.out)
        have HRT7 := Lib.hid (HRT.out.ext hrel.out)
        clear hrel
        cases hbad : badB L b
        · unfold badB at hbad
          rw [Bool.or_eq_false_iff] at hbad
          have h8 : ¬ 8 < L.length := of_decide_eq_false hbad.1
          have him : imgL L = b := by simpa using hbad.2
          have HOK := Lib.hid (show TabOk L from ⟨HLD.out.rise, by omega, HLD.out.ok⟩)
          have HIM := Lib.hid him
          clear hbad h8 him
          go_wp2_with fail
          go_ret2
          exact RLdPost.yes HOK.out HIM.out HX7.out HRT7.out
        · unfold badB at hbad
          rw [Bool.or_eq_true] at hbad
          have HF := Lib.hid (HLD.out.no hgo (hbad.imp of_decide_eq_true (fun h => by simpa using h)))
          clear hbad
          go_wp2_with fail
          go_ret2
          exact RLdPost.no HF.out HX7.out
      · have hkn' : ¬ (k : Int) < (n : Int) := by omega
        go_upto_region 23 with fail
        refine sld23 pt (fun j => j = pt ∨ j = rs) _ A2 A c2 c L b HLI.out HL9.out HP HRT HRB ?_
        intros
        rename_i w7 hrel
        have HX7 := Lib.hid (HX.out.trans hrel.out)
        have HRT7 := Lib.hid (HRT.out.ext hrel.out)
        clear hrel
        cases hbad : badB L b
        · unfold badB at hbad
          rw [Bool.or_eq_false_iff] at hbad
          have h8 : ¬ 8 < L.length := of_decide_eq_false hbad.1
          have him : imgL L = b := by simpa using hbad.2
          have HOK := Lib.hid (show TabOk L from ⟨HLD.out.rise, by omega, HLD.out.ok⟩)
          have HIM := Lib.hid him
          clear hbad h8 him
          go_wp2_with fail
          go_ret2
          exact RLdPost.yes HOK.out HIM.out HX7.out HRT7.out
        · unfold badB at hbad
          rw [Bool.or_eq_true] at hbad
          have HF := Lib.hid (HLD.out.no hgo (hbad.imp of_decide_eq_true (fun h => by simpa using h)))
          clear hbad
          go_wp2_with fail
          go_ret2
          exact RLdPost.no HF.out HX7.out
end Go.Proofs.Ytkedmpppfejofaa
set_option linter.unusedVariables false
set_option linter.unusedSimpArgs false
namespace Go.Proofs.Ytkedmpppfejofaa
open Go.RowKit

set_option maxRecDepth 100000 in
set_option maxHeartbeats 4000000 in
theorem SessionLoads_walk (w : World) (S : Nat → Prop) (v : Value) (b : List UInt8) (hr : Rs kByte w S v b) :
    Calls Try.prog 10 #[v] w fun e w' => e = .returned (.bool true) ∧ Ext w w' := by
  have HR := Lib.hid hr
  obtain ⟨A, c, rfl, -⟩ := hr
  have awk : ∀ W : World, Ext w W → Calls Try.prog 13 #[] W fun e w' => e = .returned (.bool true) ∧ Hid (Ext w w') := fun W hW => (awake_calls W).mono fun _ _ h => ⟨h.1, Lib.hid (hW.trans h.2)⟩
  go_enter Try.func10, Try.ntmps10
  by_cases ha : 65536 < b.length
  · go_wp2_with fail
    refine (awk _ (Ext.refl _)).mono ?_
    rintro e w' ⟨rfl, HE⟩
    go_wp2_with fail
    go_ret
    exact ⟨rfl, HE.out⟩
  go_wp2_with fail
  refine (Clone_calls w S _ b HR.out (by omega)).mono ?_
  rintro e w1 ⟨u, rfl, ho, hx⟩
  have HG1 := Lib.hid ho.rs
  have HX1 := Lib.hid hx
  clear ho hx
  go_wp2_with fail
  refine (Load_calls w1 _ u b HG1.out (by omega)).mono ?_
  rintro e w2 ⟨r, hld, hout, hx⟩
  have HLD := Lib.hid hld
  have HX2 := Lib.hid (HX1.out.trans hx)
  have HG2 := Lib.hid (HG1.out.ext hx)
  clear hld hx
  have RL : ∀ W : World, Ext w W → Calls Try.prog 32 #[.slice A b.length c] W (RLdPost b W) := fun W hW => RLoad_calls W S _ b (HR.out.ext hW)
  cases r with
  | none =>
    obtain rfl : e = .returned (.tuple #[.pointer none, .int .i64 83]) := hout
    go_wp2_with fail
    refine (RL w2 HX2.out).mono ?_
    rintro e w3 ⟨r', hld', hout, hx⟩
    obtain rfl := HLD.out.uniq hld'
    obtain rfl : e = .returned (.tuple #[.pointer none, .int .i64 83]) := hout
    have HX3 := Lib.hid (HX2.out.trans hx)
    have HG3 := Lib.hid (HG2.out.ext hx)
    clear hld' hx
    go_wp2_with fail
    refine (Equal_same w3 _ _ _ _ _ HG3.out (HR.out.ext HX3.out)).mono ?_
    rintro e w' ⟨rfl, rfl⟩
    go_wp2_with fail
    refine (awk _ HX3.out).mono ?_
    rintro e w' ⟨rfl, HE⟩
    go_wp2_with fail
    go_ret
    exact ⟨rfl, HE.out⟩
  | some L =>
    obtain ⟨p, b', -, -, rfl, ht⟩ := hout
    have HT := Lib.hid ht
    clear ht
    go_wp2_with fail
    refine (RL w2 HX2.out).mono ?_
    rintro e w3 ⟨r', hld', hout, hx⟩
    obtain rfl := HLD.out.uniq hld'
    obtain ⟨px, E, rfl, hrt⟩ := hout
    have HX3 := Lib.hid (HX2.out.trans hx)
    have HG3 := Lib.hid (HG2.out.ext hx)
    have HT3 := Lib.hid (HT.out.ext hx)
    have HRT := Lib.hid hrt
    have HOK := Lib.hid (HLD.out.1 L rfl).1
    clear hld' hx hrt
    go_wp2_with fail
    refine (tells_calls w3 p b' px E L HOK.out HT3.out HRT.out).mono ?_
    rintro e w4 ⟨rfl, hx⟩
    have HX4 := Lib.hid (HX3.out.trans hx)
    have HG4 := Lib.hid (HG3.out.ext hx)
    clear hx
    go_wp2_with fail
    refine (Equal_same w4 _ _ _ _ _ HG4.out (HR.out.ext HX4.out)).mono ?_
    rintro e w' ⟨rfl, rfl⟩
    go_wp2_with fail
    refine (awk _ HX4.out).mono ?_
    rintro e w' ⟨rfl, HE⟩
    go_wp2_with fail
    go_ret
    exact ⟨rfl, HE.out⟩
end Go.Proofs.Ytkedmpppfejofaa
