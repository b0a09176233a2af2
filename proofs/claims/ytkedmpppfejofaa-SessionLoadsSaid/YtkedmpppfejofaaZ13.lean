/-
  Texts of this claim, put together: SesPlaysP, SessionPlays.
-/
import Derived.Test.YtkedmpppfejofaaZ12
import Derived.Test.YtkedmpppfejofaaZ5
import Derived.Deep.DeepCutAuto
set_option linter.unusedVariables false
set_option linter.unusedSimpArgs false
namespace Go.Proofs.Ytkedmpppfejofaa
open Go.RowKit

theorem TabS.oth {w w' : World} {p b : Nat} {L : List SeatS} {S : Nat → Prop} (h : TabS w p b L) (hu : Upd S w w') (hp : ¬ S p) (hb : ¬ S b) : TabS w' p b L := ⟨blk_upd h.1 hu hp, h.2.1.keep (hu.block b h.2.1.lt hb), h.2.2⟩
/-- The program's table has L, the document's M; they lie apart. -/
structure MidT (w0 w : World) (p b px : Nat) (E : Nat → Prop) (L M : List SeatS) : Prop where
  tab : TabS w p b L
  ref : RTab w px E M
  ok : TabOk L
  okM : TabOk M
  ep : E p
  eb : E b
  ne : b ≠ px
  ne2 : p ≠ px
  lt : ∀ k, E k → k < w.heap.size
  lo : ∀ k, E k → w0.heap.size ≤ k
  ext : Ext w0 w
section
variable {w0 w w' : World} {p b px : Nat} {E : Nat → Prop} {L M L' M' : List SeatS}
theorem MidT.ext_ (h : MidT w0 w p b px E L M) (he : Ext w w') : MidT w0 w' p b px E L M :=
  ⟨h.tab.ext he, h.ref.ext he, h.ok, h.okM, h.ep, h.eb, h.ne, h.ne2, fun k hk => Nat.lt_of_lt_of_le (h.lt k hk) he.le, h.lo, h.ext.trans he⟩
theorem MidT.prog (h : MidT w0 w p b px E L M) (ht : TabS w' p b L') (hok : TabOk L') (hu : Upd (fun k => k = b) w w') : MidT w0 w' p b px E L' M :=
  ⟨ht, h.ref.upd hu (fun e => h.ne e.symm) (fun k hk => by rw [hk]; exact h.eb), hok, h.okM, h.ep, h.eb, h.ne, h.ne2, fun k hk => Nat.lt_of_lt_of_le (h.lt k hk) hu.le, h.lo, hu.ext h.ext (fun k hk => by rw [hk]; exact h.lo b h.eb)⟩
theorem MidT.ref_ (h : MidT w0 w p b px E L M) (ht : RTab w' px E M') (hok : TabOk M') (hu : Upd (fun k => k = px) w w') : MidT w0 w' p b px E L M' :=
  ⟨h.tab.oth hu h.ne2 h.ne, ht, h.ok, hok, h.ep, h.eb, h.ne, h.ne2, fun k hk => Nat.lt_of_lt_of_le (h.lt k hk) hu.le, h.lo, hu.ext h.ext (fun k hk => by
    rw [hk]
    obtain ⟨_, _, _, he⟩ := h.ref
    exact h.lo px he)⟩
/-- A clone goes on; the elder table turns as it likes. -/
theorem MidT.clone (h : MidT w0 w p b px E L M) {p' b' : Nat} (hp : w.heap.size ≤ p') (hb : w.heap.size ≤ b') (ht : TabS w' p' b' L) (he : Ext w w') {w2 : World} (hu : Upd (fun k => k = b) w' w2) :
    MidT w0 w2 p' b' px (fun k => E k ∨ k = p' ∨ k = b') L M := by
  have hlb := h.lt b h.eb
  have hlx := h.ref.lt
  have hr : RTab w' px (fun k => E k ∨ k = p' ∨ k = b') M := (h.ref.more (E' := fun k => E k ∨ k = p' ∨ k = b') (fun k hk => .inl hk) (fun k hk => by
    rcases hk with hk | hk | hk
    · exact .inl hk
    · exact .inr (by omega)
    · exact .inr (by omega))).ext he
  refine ⟨ht.oth hu (fun e => ?_) (fun e => ?_), hr.upd hu (fun e => h.ne e.symm) (fun k hk => by rw [hk]; exact .inl h.eb), h.ok, h.okM, .inr (.inl rfl), .inr (.inr rfl), ?_, ?_, fun k hk => ?_, fun k hk => ?_, hu.ext (h.ext.trans he) (fun k hk => by rw [hk]; exact h.lo b h.eb)⟩
  · have e' : p' = b := e
    omega
  · have e' : b' = b := e
    omega
  · omega
  · omega
  · have h1 := hu.le
    rcases hk with hk | hk | hk
    · have := h.lt k hk; have := he.le; omega
    · have := blk_lt ht.1; omega
    · have := ht.2.1.lt; omega
  · have h1 := h.ext.le
    rcases hk with hk | hk | hk
    · exact h.lo k hk
    · omega
    · omega
end

set_option maxRecDepth 1000000 in
set_option maxHeartbeats 4000000 in
theorem splA {K : Act → World → Prop} {Q : Exit → Act → World → Prop} {w : World} {c0 c1 c2 c5 c7 c8 c9 c10 c11 c12 c13 c14 c15 c16 c17 c18 c19 c20 c21 c22 c23 c24 c25 c26 c27 c28 c29 c30 c31 c32 c33 c34 c35 c36 c37 c38 c39 c40 c41 c42 c43 c44 c45 c46 c47 c48 c49 c50 c51 c52 c53 c54 c55 c56 c57 c58 c59 c60 c61 c62 c63 c64 c65 c66 c67 c68 c69 c70 c71 c72 c73 c74 c75 c76 c77 c78 c79 c80 c81 c82 c83 c84 c85 c86 c87 c88 c89 c90 c91 c92 c93 c94 c95 c96 c97 c98 c99 c100 c101 c102 c103 c104 c105 c106 c107 c108 c109 c110 c111 c112 c113 c114 c115 c116 c117 c118 c119 c120 c121 c122 : Value} (w0 : World) (p b px g : Nat) (E : Nat → Prop) (L : List SeatS) (d : SDoS) (hm : Hid (MidT w0 w p b px E L L)) (hg : Hid (w.heap[g]? = some (.cells (sdoC d) 32 (0, 0)))) (hgb : ¬ g = b) (hgx : ¬ g = px) (hI : SDoI d)
    (hK : ∀ (u55 u56 u57 u58 u59 u60 u61 u62 : Value) (wx : World), Hid (MidT w0 wx p b px E (openS L d.at_).1 (openS L d.at_).1) → K ⟨#[c0, c1, c2, .pointer (some ⟨p, 0, none⟩), .pointer (some ⟨px, 0, none⟩), c5, .pointer (some ⟨g, 0, none⟩), c7, c8, c9, c10, c11, c12, c13, c14, c15, c16, c17, c18, c19, c20, c21, c22, c23, c24, c25, c26, c27, c28, c29, c30, c31, c32, c33, c34, c35, c36, c37, c38, c39, c40, c41, c42, c43, c44, c45, c46, c47, c48, c49, c50, c51, c52, c53, c54, u55, u56, u57, u58, u59, u60, u61, u62, .bool false, c64, c65, c66, c67, c68, c69, c70, c71, c72, c73, c74, c75, c76, c77, c78, c79, c80, c81, c82, c83, c84, c85, c86, c87, c88, c89, c90, c91, c92, c93, c94, c95, c96, c97, c98, c99, c100, c101, c102, c103, c104, c105, c106, c107, c108, c109, c110, c111, c112, c113, c114, c115, c116, c117, c118, c119, c120, c121, c122], []⟩ wx) :
    Code.wp Try.prog ((Try.f8.body.bind (partR 11)).getD .skip) (Exit.then K Q) ⟨#[c0, c1, c2, .pointer (some ⟨p, 0, none⟩), .pointer (some ⟨px, 0, none⟩), c5, .pointer (some ⟨g, 0, none⟩), c7, c8, c9, c10, c11, c12, c13, c14, c15, c16, c17, c18, c19, c20, c21, c22, c23, c24, c25, c26, c27, c28, c29, c30, c31, c32, c33, c34, c35, c36, c37, c38, c39, c40, c41, c42, c43, c44, c45, c46, c47, c48, c49, c50, c51, c52, c53, c54, c55, c56, c57, c58, c59, c60, c61, c62, c63, c64, c65, c66, c67, c68, c69, c70, c71, c72, c73, c74, c75, c76, c77, c78, c79, c80, c81, c82, c83, c84, c85, c86, c87, c88, c89, c90, c91, c92, c93, c94, c95, c96, c97, c98, c99, c100, c101, c102, c103, c104, c105, c106, c107, c108, c109, c110, c111, c112, c113, c114, c115, c116, c117, c118, c119, c120, c121, c122], []⟩ w := by
  conv => arg 2; whnf
  have hK2 := Lib.hid @hK
  obtain ⟨w1, hw1⟩ : ∃ W, W = w.drew := ⟨_, rfl⟩
  have x1 := Lib.hid (show Ext w w1 by rw [hw1]; exact (Ext.refl w).drew)
  have m1 := Lib.hid (hm.out.ext_ x1.out)
  have b1 := Lib.hid (blk_ext hg.out x1.out)
  have HS0 := Lib.hid (show ∀ W : World, W.heap[g]? = some (.cells (sdoC d) 32 (0, 0)) → W.cell? ⟨g, 0, none⟩ = some (.int .i64 d.op) ∧ W.cell? ⟨g, 1, none⟩ = some (.int .i64 d.session) ∧ W.cell? ⟨g, 2, none⟩ = some (.int .i64 d.seq) ∧ W.cell? ⟨g, 3, none⟩ = some (.int .i64 d.at_) ∧ W.cell? ⟨g, 4, none⟩ = some (.int .i64 d.r.err) ∧ W.cell? ⟨g, 5, none⟩ = some (.int .i64 d.r.session) ∧ W.cell? ⟨g, 6, none⟩ = some (.int .i64 d.r.gone) ∧ W.cell? ⟨g, 7, none⟩ = some (.int .i64 d.r.added) ∧ W.cell? ⟨g, 8, none⟩ = some (.int .i64 d.r.same) ∧ W.cell? ⟨g, 9, none⟩ = some (.int .i64 d.r.other) ∧ W.cell? ⟨g, 10, none⟩ = some (.int .i64 d.r.cycle) ∧ W.cell? ⟨g, 11, none⟩ = some (.int .i64 d.r.full) from fun W h1 => ⟨cell_blk h1 0, cell_blk h1 1, cell_blk h1 2, cell_blk h1 3, cell_blk h1 4, cell_blk h1 5, cell_blk h1 6, cell_blk h1 7, cell_blk h1 8, cell_blk h1 9, cell_blk h1 10, cell_blk h1 11⟩)
  have hq : ((openS L d.at_).2 != (openS L d.at_).2) = false := by simp
  clear hK
  refine wpF_region (fun W => W.cell? ⟨g, 0, none⟩ = some (.int .i64 d.op) ∧ W.cell? ⟨g, 1, none⟩ = some (.int .i64 d.session) ∧ W.cell? ⟨g, 2, none⟩ = some (.int .i64 d.seq) ∧ W.cell? ⟨g, 3, none⟩ = some (.int .i64 d.at_) ∧ W.cell? ⟨g, 4, none⟩ = some (.int .i64 d.r.err) ∧ W.cell? ⟨g, 5, none⟩ = some (.int .i64 d.r.session) ∧ W.cell? ⟨g, 6, none⟩ = some (.int .i64 d.r.gone) ∧ W.cell? ⟨g, 7, none⟩ = some (.int .i64 d.r.added) ∧ W.cell? ⟨g, 8, none⟩ = some (.int .i64 d.r.same) ∧ W.cell? ⟨g, 9, none⟩ = some (.int .i64 d.r.other) ∧ W.cell? ⟨g, 10, none⟩ = some (.int .i64 d.r.cycle) ∧ W.cell? ⟨g, 11, none⟩ = some (.int .i64 d.r.full)) (fun _ => True) 99 9 (by kernel_rfl) (by kernel_rfl) ?_
  rw [← hw1]
  clear hw1
  refine wpF_take0 (i := 0) (v := ?v1) rfl (by kernel_rfl) (by kernel_rfl) (by kernel_rfl) (fun _ _ _ h => h) (by kernel_rfl) (Or.inl ⟨by rfl, ?hy1⟩) (HS0.out _ b1.out) (gone (by kernel_rfl)) ?rest1
  case hy1 => (intro W hSW; (try dsimp only at hSW); go_simp; (try with_reducible rfl))
  (try simp only [Act.put, List.setIfInBounds_toArray, List.set_cons_zero, List.set_cons_succ])
  refine wpF_take0 (i := 1) (v := ?v2) rfl (by kernel_rfl) (by kernel_rfl) (by kernel_rfl) (fun _ _ _ h => h) (by kernel_rfl) (Or.inl ⟨by rfl, ?hy2⟩) (HS0.out _ b1.out) (gone (by kernel_rfl)) ?rest2
  case hy2 => (intro W hSW; (try dsimp only at hSW); go_simp; (try with_reducible rfl))
  (try simp only [Act.put, List.setIfInBounds_toArray, List.set_cons_zero, List.set_cons_succ])
  refine wpF_take0 (i := 2) (v := ?v3) rfl (by kernel_rfl) (by kernel_rfl) (by kernel_rfl) (fun _ _ _ h => h) (by kernel_rfl) (Or.inl ⟨by rfl, ?hy3⟩) (HS0.out _ b1.out) (gone (by kernel_rfl)) ?rest3
  case hy3 => (intro W hSW; (try dsimp only at hSW); go_simp; (try with_reducible rfl))
  (try simp only [Act.put, List.setIfInBounds_toArray, List.set_cons_zero, List.set_cons_succ])
  refine wpF_take0 (i := 4) (v := ?v4) rfl (by kernel_rfl) (by kernel_rfl) (by kernel_rfl) (fun _ _ _ h => h) (by kernel_rfl) (Or.inl ⟨by rfl, ?hy4⟩) (HS0.out _ b1.out) (gone (by kernel_rfl)) ?rest4
  case hy4 => (intro W hSW; (try dsimp only at hSW); go_simp; (try with_reducible rfl))
  (try simp only [Act.put, List.setIfInBounds_toArray, List.set_cons_zero, List.set_cons_succ])
  refine wpF_take0 (i := 5) (v := ?v5) rfl (by kernel_rfl) (by kernel_rfl) (by kernel_rfl) (fun _ _ _ h => h) (by kernel_rfl) (Or.inl ⟨by rfl, ?hy5⟩) (HS0.out _ b1.out) (gone (by kernel_rfl)) ?rest5
  case hy5 => (intro W hSW; (try dsimp only at hSW); go_simp; (try with_reducible rfl))
  (try simp only [Act.put, List.setIfInBounds_toArray, List.set_cons_zero, List.set_cons_succ])
  refine wpF_take0 (i := 6) (v := ?v6) rfl (by kernel_rfl) (by kernel_rfl) (by kernel_rfl) (fun _ _ _ h => h) (by kernel_rfl) (Or.inl ⟨by rfl, ?hy6⟩) (HS0.out _ b1.out) (gone (by kernel_rfl)) ?rest6
  case hy6 => (intro W hSW; (try dsimp only at hSW); go_simp; (try with_reducible rfl))
  (try simp only [Act.put, List.setIfInBounds_toArray, List.set_cons_zero, List.set_cons_succ])
  refine wpF_step (i := 3) (by kernel_rfl) rfl (fun K hK => ?_)
  go_simp
  refine (Open_calls w1 p b L d.at_ hI.2.2.2.1 m1.out.ok.len1 m1.out.tab).mono ?_
  rintro e w2 ⟨rfl, ht, hu⟩
  have m2 := Lib.hid (m1.out.prog ht (m1.out.okM.open_ d.at_) hu)
  have b2 := Lib.hid (blk_upd b1.out hu hgb)
  clear ht hu
  (try go_wp2_with fail)
  refine hK.out _ _ (HS0.out _ b2.out) (gone (by kernel_rfl)) ?_
  clear hK K
  (try simp only [Act.put, List.setIfInBounds_toArray, List.set_cons_zero, List.set_cons_succ])
  refine wpF_step (i := 7) (by kernel_rfl) rfl (fun K hK => ?_)
  go_simp
  refine (ROpen_calls w2 px E L d.at_ m2.out.okM m2.out.lt m2.out.ref).mono ?_
  rintro e w3 ⟨rfl, ht, hu⟩
  have m3 := Lib.hid (m2.out.ref_ ht (m1.out.okM.open_ d.at_) hu)
  have b3 := Lib.hid (blk_upd b2.out hu hgx)
  clear ht hu
  (try go_wp2_with fail)
  refine hK.out _ _ (HS0.out _ b3.out) (gone (by kernel_rfl)) ?_
  clear hK K
  (try simp only [Act.put, List.setIfInBounds_toArray, List.set_cons_zero, List.set_cons_succ])
  refine wpF_step (i := 8) (by kernel_rfl) rfl (fun K hK => ?_)
  go_simp
  refine hK.out _ _ (HS0.out _ b3.out) (gone (by kernel_rfl)) ?_
  clear hK K
  (try simp only [Act.put, List.setIfInBounds_toArray, List.set_cons_zero, List.set_cons_succ])
  refine wpF_done (by kernel_rfl) ?_ _
  refine NoPanic.normal ?_
  exact hK2.out _ _ _ _ _ _ _ _ _  m3
set_option maxRecDepth 1000000 in
set_option maxHeartbeats 4000000 in
theorem splB {K : Act → World → Prop} {Q : Exit → Act → World → Prop} {w : World} {c0 c1 c2 c5 c7 c8 c9 c10 c11 c12 c13 c14 c15 c16 c17 c18 c19 c20 c21 c22 c23 c24 c25 c26 c27 c28 c29 c30 c31 c32 c33 c34 c35 c36 c37 c38 c39 c40 c41 c42 c43 c44 c45 c46 c47 c48 c49 c50 c51 c52 c53 c54 c55 c56 c57 c58 c59 c60 c61 c62 c63 c64 c65 c66 c67 c68 c69 c70 c71 c72 c73 c74 c75 c76 c77 c78 c79 c80 c81 c82 c83 c84 c85 c86 c87 c88 c89 c90 c91 c92 c93 c94 c95 c96 c97 c98 c99 c100 c101 c102 c103 c104 c105 c106 c107 c108 c109 c110 c111 c112 c113 c114 c115 c116 c117 c118 c119 c120 c121 c122 : Value} (w0 : World) (p b px g : Nat) (E : Nat → Prop) (L : List SeatS) (d : SDoS) (hm : Hid (MidT w0 w p b px E L L)) (hg : Hid (w.heap[g]? = some (.cells (sdoC d) 32 (0, 0)))) (hgb : ¬ g = b) (hgx : ¬ g = px) (hI : SDoI d)
    (hK : ∀ (u101 u102 u103 u104 u105 u106 u107 u108 : Value) (wx : World), Hid (MidT w0 wx p b px E (stayL L d.at_) (stayL L d.at_)) → K ⟨#[c0, c1, c2, .pointer (some ⟨p, 0, none⟩), .pointer (some ⟨px, 0, none⟩), c5, .pointer (some ⟨g, 0, none⟩), c7, c8, c9, c10, c11, c12, c13, c14, c15, c16, c17, c18, c19, c20, c21, c22, c23, c24, c25, c26, c27, c28, c29, c30, c31, c32, c33, c34, c35, c36, c37, c38, c39, c40, c41, c42, c43, c44, c45, c46, c47, c48, c49, c50, c51, c52, c53, c54, c55, c56, c57, c58, c59, c60, c61, c62, c63, c64, c65, c66, c67, c68, c69, c70, c71, c72, c73, c74, c75, c76, c77, c78, c79, c80, c81, c82, c83, c84, c85, c86, c87, c88, c89, c90, c91, c92, c93, c94, c95, c96, c97, c98, c99, c100, u101, u102, u103, u104, u105, u106, u107, u108, .bool false, c110, c111, c112, c113, c114, c115, c116, c117, c118, c119, c120, c121, c122], []⟩ wx) :
    Code.wp Try.prog ((Try.f8.body.bind (partR 19)).getD .skip) (Exit.then K Q) ⟨#[c0, c1, c2, .pointer (some ⟨p, 0, none⟩), .pointer (some ⟨px, 0, none⟩), c5, .pointer (some ⟨g, 0, none⟩), c7, c8, c9, c10, c11, c12, c13, c14, c15, c16, c17, c18, c19, c20, c21, c22, c23, c24, c25, c26, c27, c28, c29, c30, c31, c32, c33, c34, c35, c36, c37, c38, c39, c40, c41, c42, c43, c44, c45, c46, c47, c48, c49, c50, c51, c52, c53, c54, c55, c56, c57, c58, c59, c60, c61, c62, c63, c64, c65, c66, c67, c68, c69, c70, c71, c72, c73, c74, c75, c76, c77, c78, c79, c80, c81, c82, c83, c84, c85, c86, c87, c88, c89, c90, c91, c92, c93, c94, c95, c96, c97, c98, c99, c100, c101, c102, c103, c104, c105, c106, c107, c108, c109, c110, c111, c112, c113, c114, c115, c116, c117, c118, c119, c120, c121, c122], []⟩ w := by
  conv => arg 2; whnf
  have hK2 := Lib.hid @hK
  obtain ⟨w1, hw1⟩ : ∃ W, W = w.drew := ⟨_, rfl⟩
  have x1 := Lib.hid (show Ext w w1 by rw [hw1]; exact (Ext.refl w).drew)
  have m1 := Lib.hid (hm.out.ext_ x1.out)
  have b1 := Lib.hid (blk_ext hg.out x1.out)
  have HS0 := Lib.hid (show ∀ W : World, W.heap[g]? = some (.cells (sdoC d) 32 (0, 0)) → W.cell? ⟨g, 0, none⟩ = some (.int .i64 d.op) ∧ W.cell? ⟨g, 1, none⟩ = some (.int .i64 d.session) ∧ W.cell? ⟨g, 2, none⟩ = some (.int .i64 d.seq) ∧ W.cell? ⟨g, 3, none⟩ = some (.int .i64 d.at_) ∧ W.cell? ⟨g, 4, none⟩ = some (.int .i64 d.r.err) ∧ W.cell? ⟨g, 5, none⟩ = some (.int .i64 d.r.session) ∧ W.cell? ⟨g, 6, none⟩ = some (.int .i64 d.r.gone) ∧ W.cell? ⟨g, 7, none⟩ = some (.int .i64 d.r.added) ∧ W.cell? ⟨g, 8, none⟩ = some (.int .i64 d.r.same) ∧ W.cell? ⟨g, 9, none⟩ = some (.int .i64 d.r.other) ∧ W.cell? ⟨g, 10, none⟩ = some (.int .i64 d.r.cycle) ∧ W.cell? ⟨g, 11, none⟩ = some (.int .i64 d.r.full) from fun W h1 => ⟨cell_blk h1 0, cell_blk h1 1, cell_blk h1 2, cell_blk h1 3, cell_blk h1 4, cell_blk h1 5, cell_blk h1 6, cell_blk h1 7, cell_blk h1 8, cell_blk h1 9, cell_blk h1 10, cell_blk h1 11⟩)
  have hq : (((L.length : Int) - ((stayL L d.at_).length : Int)) != ((L.length : Int) - ((stayL L d.at_).length : Int))) = false := by simp
  clear hK
  refine wpF_region (fun W => W.cell? ⟨g, 0, none⟩ = some (.int .i64 d.op) ∧ W.cell? ⟨g, 1, none⟩ = some (.int .i64 d.session) ∧ W.cell? ⟨g, 2, none⟩ = some (.int .i64 d.seq) ∧ W.cell? ⟨g, 3, none⟩ = some (.int .i64 d.at_) ∧ W.cell? ⟨g, 4, none⟩ = some (.int .i64 d.r.err) ∧ W.cell? ⟨g, 5, none⟩ = some (.int .i64 d.r.session) ∧ W.cell? ⟨g, 6, none⟩ = some (.int .i64 d.r.gone) ∧ W.cell? ⟨g, 7, none⟩ = some (.int .i64 d.r.added) ∧ W.cell? ⟨g, 8, none⟩ = some (.int .i64 d.r.same) ∧ W.cell? ⟨g, 9, none⟩ = some (.int .i64 d.r.other) ∧ W.cell? ⟨g, 10, none⟩ = some (.int .i64 d.r.cycle) ∧ W.cell? ⟨g, 11, none⟩ = some (.int .i64 d.r.full)) (fun _ => True) 99 9 (by kernel_rfl) (by kernel_rfl) ?_
  rw [← hw1]
  clear hw1
  refine wpF_take0 (i := 0) (v := ?v7) rfl (by kernel_rfl) (by kernel_rfl) (by kernel_rfl) (fun _ _ _ h => h) (by kernel_rfl) (Or.inl ⟨by rfl, ?hy7⟩) (HS0.out _ b1.out) (gone (by kernel_rfl)) ?rest7
  case hy7 => (intro W hSW; (try dsimp only at hSW); go_simp; (try with_reducible rfl))
  (try simp only [Act.put, List.setIfInBounds_toArray, List.set_cons_zero, List.set_cons_succ])
  refine wpF_take0 (i := 1) (v := ?v8) rfl (by kernel_rfl) (by kernel_rfl) (by kernel_rfl) (fun _ _ _ h => h) (by kernel_rfl) (Or.inl ⟨by rfl, ?hy8⟩) (HS0.out _ b1.out) (gone (by kernel_rfl)) ?rest8
  case hy8 => (intro W hSW; (try dsimp only at hSW); go_simp; (try with_reducible rfl))
  (try simp only [Act.put, List.setIfInBounds_toArray, List.set_cons_zero, List.set_cons_succ])
  refine wpF_take0 (i := 2) (v := ?v9) rfl (by kernel_rfl) (by kernel_rfl) (by kernel_rfl) (fun _ _ _ h => h) (by kernel_rfl) (Or.inl ⟨by rfl, ?hy9⟩) (HS0.out _ b1.out) (gone (by kernel_rfl)) ?rest9
  case hy9 => (intro W hSW; (try dsimp only at hSW); go_simp; (try with_reducible rfl))
  (try simp only [Act.put, List.setIfInBounds_toArray, List.set_cons_zero, List.set_cons_succ])
  refine wpF_take0 (i := 4) (v := ?v10) rfl (by kernel_rfl) (by kernel_rfl) (by kernel_rfl) (fun _ _ _ h => h) (by kernel_rfl) (Or.inl ⟨by rfl, ?hy10⟩) (HS0.out _ b1.out) (gone (by kernel_rfl)) ?rest10
  case hy10 => (intro W hSW; (try dsimp only at hSW); go_simp; (try with_reducible rfl))
  (try simp only [Act.put, List.setIfInBounds_toArray, List.set_cons_zero, List.set_cons_succ])
  refine wpF_take0 (i := 5) (v := ?v11) rfl (by kernel_rfl) (by kernel_rfl) (by kernel_rfl) (fun _ _ _ h => h) (by kernel_rfl) (Or.inl ⟨by rfl, ?hy11⟩) (HS0.out _ b1.out) (gone (by kernel_rfl)) ?rest11
  case hy11 => (intro W hSW; (try dsimp only at hSW); go_simp; (try with_reducible rfl))
  (try simp only [Act.put, List.setIfInBounds_toArray, List.set_cons_zero, List.set_cons_succ])
  refine wpF_take0 (i := 6) (v := ?v12) rfl (by kernel_rfl) (by kernel_rfl) (by kernel_rfl) (fun _ _ _ h => h) (by kernel_rfl) (Or.inl ⟨by rfl, ?hy12⟩) (HS0.out _ b1.out) (gone (by kernel_rfl)) ?rest12
  case hy12 => (intro W hSW; (try dsimp only at hSW); go_simp; (try with_reducible rfl))
  (try simp only [Act.put, List.setIfInBounds_toArray, List.set_cons_zero, List.set_cons_succ])
  refine wpF_step (i := 3) (by kernel_rfl) rfl (fun K hK => ?_)
  go_simp
  refine (Expire_calls w1 p b L d.at_ m1.out.ok.rise m1.out.ok.len1 m1.out.tab).mono ?_
  rintro e w2 ⟨rfl, ht, hu⟩
  have m2 := Lib.hid (m1.out.prog ht (m1.out.okM.stay d.at_) hu)
  have b2 := Lib.hid (blk_upd b1.out hu hgb)
  clear ht hu
  (try go_wp2_with fail)
  refine hK.out _ _ (HS0.out _ b2.out) (gone (by kernel_rfl)) ?_
  clear hK K
  (try simp only [Act.put, List.setIfInBounds_toArray, List.set_cons_zero, List.set_cons_succ])
  refine wpF_step (i := 7) (by kernel_rfl) rfl (fun K hK => ?_)
  go_simp
  refine (RExpire_calls w2 px E L d.at_ m2.out.okM m2.out.lt m2.out.ref).mono ?_
  rintro e w3 ⟨rfl, ht, hu⟩
  have m3 := Lib.hid (m2.out.ref_ ht (m1.out.okM.stay d.at_) hu)
  have b3 := Lib.hid (blk_upd b2.out hu hgx)
  clear ht hu
  (try go_wp2_with fail)
  refine hK.out _ _ (HS0.out _ b3.out) (gone (by kernel_rfl)) ?_
  clear hK K
  (try simp only [Act.put, List.setIfInBounds_toArray, List.set_cons_zero, List.set_cons_succ])
  refine wpF_step (i := 8) (by kernel_rfl) rfl (fun K hK => ?_)
  go_simp
  refine hK.out _ _ (HS0.out _ b3.out) (gone (by kernel_rfl)) ?_
  clear hK K
  (try simp only [Act.put, List.setIfInBounds_toArray, List.set_cons_zero, List.set_cons_succ])
  refine wpF_done (by kernel_rfl) ?_ _
  refine NoPanic.normal ?_
  exact hK2.out _ _ _ _ _ _ _ _ _  m3
set_option maxRecDepth 1000000 in
set_option maxHeartbeats 4000000 in
theorem splC {K : Act → World → Prop} {Q : Exit → Act → World → Prop} {w : World} {c0 c1 c2 c5 c7 c8 c9 c10 c11 c12 c13 c14 c15 c16 c17 c18 c19 c20 c21 c22 c23 c24 c25 c26 c27 c28 c29 c30 c31 c32 c33 c34 c35 c36 c37 c38 c39 c40 c41 c42 c43 c44 c45 c46 c47 c48 c49 c50 c51 c52 c53 c54 c55 c56 c57 c58 c59 c60 c61 c62 c63 c64 c65 c66 c67 c68 c69 c70 c71 c72 c73 c74 c75 c76 c77 c78 c79 c80 c81 c82 c83 c84 c85 c86 c87 c88 c89 c90 c91 c92 c93 c94 c95 c96 c97 c98 c99 c100 c101 c102 c103 c104 c105 c106 c107 c108 c109 c110 c111 c112 c113 c114 c115 c116 c117 c118 c119 c120 c121 c122 : Value} (w0 : World) (p b px g : Nat) (E : Nat → Prop) (L : List SeatS) (d : SDoS) (hm : Hid (MidT w0 w p b px E L L)) (hg : Hid (w.heap[g]? = some (.cells (sdoC d) 32 (0, 0)))) (hgb : ¬ g = b) (hgx : ¬ g = px) (hI : SDoI d)
    (hK : ∀ (u32 u33 u34 u35 u36 u37 u38 u39 u40 u41 u42 u43 u44 u45 u46 u47 u48 u49 u50 u51 : Value) (wx : World), Hid (MidT w0 wx p b px E (keepS L d.session d.seq d.at_ d.r).1 (keepS L d.session d.seq d.at_ d.r).1) → K ⟨#[c0, c1, c2, .pointer (some ⟨p, 0, none⟩), .pointer (some ⟨px, 0, none⟩), c5, .pointer (some ⟨g, 0, none⟩), c7, c8, c9, c10, c11, c12, c13, c14, c15, c16, c17, c18, c19, c20, c21, c22, c23, c24, c25, c26, c27, c28, c29, c30, c31, u32, u33, u34, u35, u36, u37, u38, u39, u40, u41, u42, u43, u44, u45, u46, u47, u48, u49, u50, u51, .bool false, c53, c54, c55, c56, c57, c58, c59, c60, c61, c62, c63, c64, c65, c66, c67, c68, c69, c70, c71, c72, c73, c74, c75, c76, c77, c78, c79, c80, c81, c82, c83, c84, c85, c86, c87, c88, c89, c90, c91, c92, c93, c94, c95, c96, c97, c98, c99, c100, c101, c102, c103, c104, c105, c106, c107, c108, c109, c110, c111, c112, c113, c114, c115, c116, c117, c118, c119, c120, c121, c122], []⟩ wx) :
    Code.wp Try.prog ((Try.f8.body.bind (partR 8)).getD .skip) (Exit.then K Q) ⟨#[c0, c1, c2, .pointer (some ⟨p, 0, none⟩), .pointer (some ⟨px, 0, none⟩), c5, .pointer (some ⟨g, 0, none⟩), c7, c8, c9, c10, c11, c12, c13, c14, c15, c16, c17, c18, c19, c20, c21, c22, c23, c24, c25, c26, c27, c28, c29, c30, c31, c32, c33, c34, c35, c36, c37, c38, c39, c40, c41, c42, c43, c44, c45, c46, c47, c48, c49, c50, c51, c52, c53, c54, c55, c56, c57, c58, c59, c60, c61, c62, c63, c64, c65, c66, c67, c68, c69, c70, c71, c72, c73, c74, c75, c76, c77, c78, c79, c80, c81, c82, c83, c84, c85, c86, c87, c88, c89, c90, c91, c92, c93, c94, c95, c96, c97, c98, c99, c100, c101, c102, c103, c104, c105, c106, c107, c108, c109, c110, c111, c112, c113, c114, c115, c116, c117, c118, c119, c120, c121, c122], []⟩ w := by
  conv => arg 2; whnf
  have hK2 := Lib.hid @hK
  obtain ⟨w1, hw1⟩ : ∃ W, W = w.drew := ⟨_, rfl⟩
  have x1 := Lib.hid (show Ext w w1 by rw [hw1]; exact (Ext.refl w).drew)
  have m1 := Lib.hid (hm.out.ext_ x1.out)
  have b1 := Lib.hid (blk_ext hg.out x1.out)
  have HS0 := Lib.hid (show ∀ W : World, W.heap[g]? = some (.cells (sdoC d) 32 (0, 0)) → W.cell? ⟨g, 0, none⟩ = some (.int .i64 d.op) ∧ W.cell? ⟨g, 1, none⟩ = some (.int .i64 d.session) ∧ W.cell? ⟨g, 2, none⟩ = some (.int .i64 d.seq) ∧ W.cell? ⟨g, 3, none⟩ = some (.int .i64 d.at_) ∧ W.cell? ⟨g, 4, none⟩ = some (.int .i64 d.r.err) ∧ W.cell? ⟨g, 5, none⟩ = some (.int .i64 d.r.session) ∧ W.cell? ⟨g, 6, none⟩ = some (.int .i64 d.r.gone) ∧ W.cell? ⟨g, 7, none⟩ = some (.int .i64 d.r.added) ∧ W.cell? ⟨g, 8, none⟩ = some (.int .i64 d.r.same) ∧ W.cell? ⟨g, 9, none⟩ = some (.int .i64 d.r.other) ∧ W.cell? ⟨g, 10, none⟩ = some (.int .i64 d.r.cycle) ∧ W.cell? ⟨g, 11, none⟩ = some (.int .i64 d.r.full) from fun W h1 => ⟨cell_blk h1 0, cell_blk h1 1, cell_blk h1 2, cell_blk h1 3, cell_blk h1 4, cell_blk h1 5, cell_blk h1 6, cell_blk h1 7, cell_blk h1 8, cell_blk h1 9, cell_blk h1 10, cell_blk h1 11⟩)
  have hq : ((keepS L d.session d.seq d.at_ d.r).2 != (keepS L d.session d.seq d.at_ d.r).2) = false := by simp
  clear hK
  refine wpF_region (fun W => W.cell? ⟨g, 0, none⟩ = some (.int .i64 d.op) ∧ W.cell? ⟨g, 1, none⟩ = some (.int .i64 d.session) ∧ W.cell? ⟨g, 2, none⟩ = some (.int .i64 d.seq) ∧ W.cell? ⟨g, 3, none⟩ = some (.int .i64 d.at_) ∧ W.cell? ⟨g, 4, none⟩ = some (.int .i64 d.r.err) ∧ W.cell? ⟨g, 5, none⟩ = some (.int .i64 d.r.session) ∧ W.cell? ⟨g, 6, none⟩ = some (.int .i64 d.r.gone) ∧ W.cell? ⟨g, 7, none⟩ = some (.int .i64 d.r.added) ∧ W.cell? ⟨g, 8, none⟩ = some (.int .i64 d.r.same) ∧ W.cell? ⟨g, 9, none⟩ = some (.int .i64 d.r.other) ∧ W.cell? ⟨g, 10, none⟩ = some (.int .i64 d.r.cycle) ∧ W.cell? ⟨g, 11, none⟩ = some (.int .i64 d.r.full)) (fun _ => True) 99 21 (by kernel_rfl) (by kernel_rfl) ?_
  rw [← hw1]
  clear hw1
  refine wpF_take0 (i := 0) (v := ?v13) rfl (by kernel_rfl) (by kernel_rfl) (by kernel_rfl) (fun _ _ _ h => h) (by kernel_rfl) (Or.inl ⟨by rfl, ?hy13⟩) (HS0.out _ b1.out) (gone (by kernel_rfl)) ?rest13
  case hy13 => (intro W hSW; (try dsimp only at hSW); go_simp; (try with_reducible rfl))
  (try simp only [Act.put, List.setIfInBounds_toArray, List.set_cons_zero, List.set_cons_succ])
  refine wpF_take0 (i := 1) (v := ?v14) rfl (by kernel_rfl) (by kernel_rfl) (by kernel_rfl) (fun _ _ _ h => h) (by kernel_rfl) (Or.inl ⟨by rfl, ?hy14⟩) (HS0.out _ b1.out) (gone (by kernel_rfl)) ?rest14
  case hy14 => (intro W hSW; (try dsimp only at hSW); go_simp; (try with_reducible rfl))
  (try simp only [Act.put, List.setIfInBounds_toArray, List.set_cons_zero, List.set_cons_succ])
  refine wpF_take0 (i := 2) (v := ?v15) rfl (by kernel_rfl) (by kernel_rfl) (by kernel_rfl) (fun _ _ _ h => h) (by kernel_rfl) (Or.inl ⟨by rfl, ?hy15⟩) (HS0.out _ b1.out) (gone (by kernel_rfl)) ?rest15
  case hy15 => (intro W hSW; (try dsimp only at hSW); go_simp; (try with_reducible rfl))
  (try simp only [Act.put, List.setIfInBounds_toArray, List.set_cons_zero, List.set_cons_succ])
  refine wpF_take0 (i := 3) (v := ?v16) rfl (by kernel_rfl) (by kernel_rfl) (by kernel_rfl) (fun _ _ _ h => h) (by kernel_rfl) (Or.inl ⟨by rfl, ?hy16⟩) (HS0.out _ b1.out) (gone (by kernel_rfl)) ?rest16
  case hy16 => (intro W hSW; (try dsimp only at hSW); go_simp; (try with_reducible rfl))
  (try simp only [Act.put, List.setIfInBounds_toArray, List.set_cons_zero, List.set_cons_succ])
  refine wpF_take0 (i := 4) (v := ?v17) rfl (by kernel_rfl) (by kernel_rfl) (by kernel_rfl) (fun _ _ _ h => h) (by kernel_rfl) (Or.inl ⟨by rfl, ?hy17⟩) (HS0.out _ b1.out) (gone (by kernel_rfl)) ?rest17
  case hy17 => (intro W hSW; (try dsimp only at hSW); go_simp; (try with_reducible rfl))
  (try simp only [Act.put, List.setIfInBounds_toArray, List.set_cons_zero, List.set_cons_succ])
  refine wpF_take0 (i := 5) (v := ?v18) rfl (by kernel_rfl) (by kernel_rfl) (by kernel_rfl) (fun _ _ _ h => h) (by kernel_rfl) (Or.inl ⟨by rfl, ?hy18⟩) (HS0.out _ b1.out) (gone (by kernel_rfl)) ?rest18
  case hy18 => (intro W hSW; (try dsimp only at hSW); go_simp; (try with_reducible rfl))
  (try simp only [Act.put, List.setIfInBounds_toArray, List.set_cons_zero, List.set_cons_succ])
  refine wpF_take0 (i := 6) (v := ?v19) rfl (by kernel_rfl) (by kernel_rfl) (by kernel_rfl) (fun _ _ _ h => h) (by kernel_rfl) (Or.inl ⟨by rfl, ?hy19⟩) (HS0.out _ b1.out) (gone (by kernel_rfl)) ?rest19
  case hy19 => (intro W hSW; (try dsimp only at hSW); go_simp; (try with_reducible rfl))
  (try simp only [Act.put, List.setIfInBounds_toArray, List.set_cons_zero, List.set_cons_succ])
  refine wpF_take0 (i := 7) (v := ?v20) rfl (by kernel_rfl) (by kernel_rfl) (by kernel_rfl) (fun _ _ _ h => h) (by kernel_rfl) (Or.inl ⟨by rfl, ?hy20⟩) (HS0.out _ b1.out) (gone (by kernel_rfl)) ?rest20
  case hy20 => (intro W hSW; (try dsimp only at hSW); go_simp; (try with_reducible rfl))
  (try simp only [Act.put, List.setIfInBounds_toArray, List.set_cons_zero, List.set_cons_succ])
  refine wpF_take0 (i := 8) (v := ?v21) rfl (by kernel_rfl) (by kernel_rfl) (by kernel_rfl) (fun _ _ _ h => h) (by kernel_rfl) (Or.inl ⟨by rfl, ?hy21⟩) (HS0.out _ b1.out) (gone (by kernel_rfl)) ?rest21
  case hy21 => (intro W hSW; (try dsimp only at hSW); go_simp; (try with_reducible rfl))
  (try simp only [Act.put, List.setIfInBounds_toArray, List.set_cons_zero, List.set_cons_succ])
  refine wpF_take0 (i := 10) (v := ?v22) rfl (by kernel_rfl) (by kernel_rfl) (by kernel_rfl) (fun _ _ _ h => h) (by kernel_rfl) (Or.inl ⟨by rfl, ?hy22⟩) (HS0.out _ b1.out) (gone (by kernel_rfl)) ?rest22
  case hy22 => (intro W hSW; (try dsimp only at hSW); go_simp; (try with_reducible rfl))
  (try simp only [Act.put, List.setIfInBounds_toArray, List.set_cons_zero, List.set_cons_succ])
  refine wpF_take0 (i := 11) (v := ?v23) rfl (by kernel_rfl) (by kernel_rfl) (by kernel_rfl) (fun _ _ _ h => h) (by kernel_rfl) (Or.inl ⟨by rfl, ?hy23⟩) (HS0.out _ b1.out) (gone (by kernel_rfl)) ?rest23
  case hy23 => (intro W hSW; (try dsimp only at hSW); go_simp; (try with_reducible rfl))
  (try simp only [Act.put, List.setIfInBounds_toArray, List.set_cons_zero, List.set_cons_succ])
  refine wpF_take0 (i := 12) (v := ?v24) rfl (by kernel_rfl) (by kernel_rfl) (by kernel_rfl) (fun _ _ _ h => h) (by kernel_rfl) (Or.inl ⟨by rfl, ?hy24⟩) (HS0.out _ b1.out) (gone (by kernel_rfl)) ?rest24
  case hy24 => (intro W hSW; (try dsimp only at hSW); go_simp; (try with_reducible rfl))
  (try simp only [Act.put, List.setIfInBounds_toArray, List.set_cons_zero, List.set_cons_succ])
  refine wpF_take0 (i := 13) (v := ?v25) rfl (by kernel_rfl) (by kernel_rfl) (by kernel_rfl) (fun _ _ _ h => h) (by kernel_rfl) (Or.inl ⟨by rfl, ?hy25⟩) (HS0.out _ b1.out) (gone (by kernel_rfl)) ?rest25
  case hy25 => (intro W hSW; (try dsimp only at hSW); go_simp; (try with_reducible rfl))
  (try simp only [Act.put, List.setIfInBounds_toArray, List.set_cons_zero, List.set_cons_succ])
  refine wpF_take0 (i := 14) (v := ?v26) rfl (by kernel_rfl) (by kernel_rfl) (by kernel_rfl) (fun _ _ _ h => h) (by kernel_rfl) (Or.inl ⟨by rfl, ?hy26⟩) (HS0.out _ b1.out) (gone (by kernel_rfl)) ?rest26
  case hy26 => (intro W hSW; (try dsimp only at hSW); go_simp; (try with_reducible rfl))
  (try simp only [Act.put, List.setIfInBounds_toArray, List.set_cons_zero, List.set_cons_succ])
  refine wpF_take0 (i := 15) (v := ?v27) rfl (by kernel_rfl) (by kernel_rfl) (by kernel_rfl) (fun _ _ _ h => h) (by kernel_rfl) (Or.inl ⟨by rfl, ?hy27⟩) (HS0.out _ b1.out) (gone (by kernel_rfl)) ?rest27
  case hy27 => (intro W hSW; (try dsimp only at hSW); go_simp; (try with_reducible rfl))
  (try simp only [Act.put, List.setIfInBounds_toArray, List.set_cons_zero, List.set_cons_succ])
  refine wpF_take0 (i := 16) (v := ?v28) rfl (by kernel_rfl) (by kernel_rfl) (by kernel_rfl) (fun _ _ _ h => h) (by kernel_rfl) (Or.inl ⟨by rfl, ?hy28⟩) (HS0.out _ b1.out) (gone (by kernel_rfl)) ?rest28
  case hy28 => (intro W hSW; (try dsimp only at hSW); go_simp; (try with_reducible rfl))
  (try simp only [Act.put, List.setIfInBounds_toArray, List.set_cons_zero, List.set_cons_succ])
  refine wpF_take0 (i := 17) (v := ?v29) rfl (by kernel_rfl) (by kernel_rfl) (by kernel_rfl) (fun _ _ _ h => h) (by kernel_rfl) (Or.inl ⟨by rfl, ?hy29⟩) (HS0.out _ b1.out) (gone (by kernel_rfl)) ?rest29
  case hy29 => (intro W hSW; (try dsimp only at hSW); go_simp; (try with_reducible rfl))
  (try simp only [Act.put, List.setIfInBounds_toArray, List.set_cons_zero, List.set_cons_succ])
  refine wpF_take0 (i := 18) (v := ?v30) rfl (by kernel_rfl) (by kernel_rfl) (by kernel_rfl) (fun _ _ _ h => h) (by kernel_rfl) (Or.inl ⟨by rfl, ?hy30⟩) (HS0.out _ b1.out) (gone (by kernel_rfl)) ?rest30
  case hy30 => (intro W hSW; (try dsimp only at hSW); go_simp; (try with_reducible rfl))
  (try simp only [Act.put, List.setIfInBounds_toArray, List.set_cons_zero, List.set_cons_succ])
  refine wpF_step (i := 9) (by kernel_rfl) rfl (fun K hK => ?_)
  go_simp
  refine (Keep_calls w1 p b L d.session d.seq d.at_ d.r hI.2.1 hI.2.2.1 m1.out.ok.len1 m1.out.tab).mono ?_
  rintro e w2 ⟨rfl, ht, hu⟩
  have m2 := Lib.hid (m1.out.prog ht (m1.out.okM.keep d.session d.seq d.at_ d.r) hu)
  have b2 := Lib.hid (blk_upd b1.out hu hgb)
  clear ht hu
  (try go_wp2_with fail)
  refine hK.out _ _ (HS0.out _ b2.out) (gone (by kernel_rfl)) ?_
  clear hK K
  (try simp only [Act.put, List.setIfInBounds_toArray, List.set_cons_zero, List.set_cons_succ])
  refine wpF_step (i := 19) (by kernel_rfl) rfl (fun K hK => ?_)
  go_simp
  refine (RKeep_calls w2 px E L d.session d.seq d.at_ d.r hI.2.2.1 hI.2.2.2.2 m2.out.okM m2.out.lt m2.out.ref).mono ?_
  rintro e w3 ⟨rfl, ht, hu⟩
  have m3 := Lib.hid (m2.out.ref_ ht (m1.out.okM.keep d.session d.seq d.at_ d.r) hu)
  have b3 := Lib.hid (blk_upd b2.out hu hgx)
  clear ht hu
  (try go_wp2_with fail)
  refine hK.out _ _ (HS0.out _ b3.out) (gone (by kernel_rfl)) ?_
  clear hK K
  (try simp only [Act.put, List.setIfInBounds_toArray, List.set_cons_zero, List.set_cons_succ])
  refine wpF_step (i := 20) (by kernel_rfl) rfl (fun K hK => ?_)
  go_simp
  refine hK.out _ _ (HS0.out _ b3.out) (gone (by kernel_rfl)) ?_
  clear hK K
  (try simp only [Act.put, List.setIfInBounds_toArray, List.set_cons_zero, List.set_cons_succ])
  refine wpF_done (by kernel_rfl) ?_ _
  refine NoPanic.normal ?_
  exact hK2.out _ _ _ _ _ _ _ _ _ _ _ _ _ _ _ _ _ _ _ _ _  m3
end Go.Proofs.Ytkedmpppfejofaa
set_option linter.unusedVariables false
set_option linter.unusedSimpArgs false
namespace Go.Proofs.Ytkedmpppfejofaa
open Go.RowKit

set_option maxRecDepth 100000 in
set_option maxHeartbeats 8000000 in
theorem SessionPlays_walk (w : World) (S0 : Nat → Prop) (v0 : Value) (l : List SDoS) (h0 : Rs kSDo w S0 v0 l) :
    Calls Try.prog 8 #[v0] w fun e w' => e = .returned (.bool true) ∧ Ext w w' := by
  obtain ⟨A0, c0, rfl, -, -, -, h0r⟩ := h0
  have HR := Lib.hid h0r
  clear h0r
  have awk : ∀ W : World, Ext w W → Calls Try.prog 13 #[] W fun e w' => e = .returned (.bool true) ∧ Hid (Ext w w') := fun W hW => (awake_calls W).mono fun _ _ h => ⟨h.1, Lib.hid (hW.trans h.2)⟩
  go_enter Try.func8, Try.ntmps8
  by_cases ha : 200 < l.length
  · go_wp2_with fail
    refine (awk _ (Ext.refl _)).mono ?_
    rintro e w' ⟨rfl, HE⟩
    go_wp2_with fail
    go_ret
    exact ⟨rfl, HE.out⟩
  go_wp2_with fail
  refine (SNew_calls w).mono ?_
  rintro e w1 ⟨p, b, hp, hb, rfl, ht, hx⟩
  obtain ⟨px, hpx⟩ : ∃ px, px = w1.heap.size := ⟨_, rfl⟩
  have HTW := Lib.hid (show MidT w (w1.alloc (.cells #[.slice none 0 0] 61)) p b px (fun k => k = p ∨ k = b ∨ k = px) [] [] from by
    have h1 := blk_lt ht.1
    have h2 := ht.2.1.lt
    have h3 := hx.le
    refine ⟨ht.ext ((Ext.refl _).alloc _), ⟨_, heap_new w1 px hpx.symm _, Rs.nil _ _ _, .inr (.inr rfl)⟩, TabOk.nil, TabOk.nil, .inl rfl, .inr (.inl rfl), by omega, by omega, fun k hk => ?_, fun k hk => ?_, hx.alloc _⟩
    · simp only [World.size_alloc]
      rcases hk with hk | hk | hk <;> omega
    · rcases hk with hk | hk | hk <;> omega)
  clear hp hb ht hx
  go_upto_region 4 with fail
  rw [← hpx]
  clear hpx
  go_wp2_with fail
  go_loopw [3, 23] (fun t i wr => ∃ (j p b : Nat) (E : Nat → Prop) (L : List SeatS), j ≤ l.length ∧ t = .pointer (some ⟨p, 0, none⟩) ∧ i = .int .i64 j ∧ Hid (MidT w wr p b px E L L)) (fun _ i _ => l.length - (intOf i).toNat)
  case atStart => exact ⟨0, p, b, _, _, Nat.zero_le _, rfl, rfl, HTW⟩
  case round =>
    clear HTW
    obtain ⟨j, p, b, E, L, hj, rfl, rfl, HT⟩ := hrel
    by_cases hlt : j < l.length
    · obtain ⟨ad, rfl, -, -, hi, hx⟩ := (HR.out.keep (w' := wr) fun b _ hl => HT.out.ext.block b hl).sdo hlt
      have HI := Lib.hid hi
      obtain ⟨x0, x1, x2, x3, x4, x5, x6, x7, x8, x9, x10, x11⟩ := sdo_at hx
      generalize l[j] = d at *
      clear hx hi
      go_upto_region 7 with fail
      obtain ⟨w2, hw2⟩ : ∃ w2, w2 = wr.alloc (.cells (sdoC d) 32) := ⟨_, rfl⟩
      obtain ⟨g, hg⟩ : ∃ g, g = wr.heap.size := ⟨_, rfl⟩
      have hx2 : Ext wr w2 := by rw [hw2]; exact (Ext.refl _).alloc _
      have HT2 := Lib.hid (HT.out.ext_ hx2)
      have HD2 := Lib.hid (show w2.heap[g]? = some (.cells (sdoC d) 32 (0, 0)) by rw [hw2]; exact heap_new wr g hg.symm _)
      have HGB := Lib.hid (show ¬ g = b ∧ ¬ g = px from ⟨by have := HT.out.tab.2.1.lt; omega, by have := HT.out.ref.lt; omega⟩)
      unfold sdoC at hw2
      rw [← hw2, ← hg]
      clear hw2 hg hx2 x0 x1 x2 x3 x4 x5 x6 x7 x8 x9 x10 x11 HT
      obtain ⟨x0, x1, x2, x3, x4, x5, x6, x7, x8, x9, x10, x11⟩ := sdo_cells HD2.out
      have ho6 : wrap64 ((IntKind.u64.wrap d.op).tmod 6) = op6 d.op := rfl
      go_upto_block 2 with fail
      rw [ho6]
      clear ho6
      go_cut [3] (fun v3 wx => ∃ (p b : Nat) (E : Nat → Prop) (L : List SeatS), v3 = .pointer (some ⟨p, 0, none⟩) ∧ Hid (MidT w wx p b px E L L))
      case first =>
        by_cases h0 : op6 d.op = 0
        · have q0 : (op6 d.op == 0) = true := beq_iff_eq.2 h0
          clear h0
          go_upto_region 11 with fail
          refine splA w p b px g E L d HT2 HD2 HGB.out.1 HGB.out.2 HI.out ?_
          intros
          rename_i w3 hrel
          go_wp2_with fail
          go_meet
          exact ⟨p, b, E, _, rfl, hrel⟩
        have q0 : (op6 d.op == 0) = false := beq_eq_false_iff_ne.2 h0
        clear h0
        by_cases h1 : op6 d.op = 1
        · have q1 : (op6 d.op == 1) = true := beq_iff_eq.2 h1
          clear h1
          go_wp2_with fail
          refine (Ask_calls w2 p b L d.session d.seq HI.out.2.1 HI.out.2.2.1 HT2.out.tab).mono ?_
          rintro e w3 ⟨rfl, hx⟩
          dsimp only [replyC]
          go_upto_region 15 with fail
          obtain ⟨w4, hw4⟩ : ∃ w4, w4 = w3.alloc (.cells (replyC (askS L d.session d.seq).1) 26) := ⟨_, rfl⟩
          obtain ⟨g4, hg4⟩ : ∃ g, g = w3.heap.size := ⟨_, rfl⟩
          have hx4 : Ext w2 w4 := by rw [hw4]; exact hx.alloc _
          have HT4 := Lib.hid (HT2.out.ext_ hx4)
          have HD4 := Lib.hid (blk_ext HD2.out hx4)
          have HR4 := Lib.hid (show w4.heap[g4]? = some (.cells (replyC (askS L d.session d.seq).1) 26 (0, 0)) by rw [hw4]; exact heap_new w3 g4 hg4.symm _)
          unfold replyC at hw4
          rw [← hw4, ← hg4]
          clear hw4 hg4 hx hx4 x0 x1 x2 x3 x4 x5 x6 x7 x8 x9 x10 x11
          obtain ⟨x0, x1, x2, x3, x4, x5, x6, x7, x8, x9, x10, x11⟩ := sdo_cells HD4.out
          go_wp2_with fail
          refine (RAsk_calls w4 px E L d.session d.seq HT4.out.okM HI.out.2.2.1 HT4.out.ref).mono ?_
          generalize askS L d.session d.seq = a at *
          obtain ⟨a1, a2, a3⟩ := a
          rintro e w5 ⟨rfl, hx⟩
          dsimp only [replyC] at HR4 ⊢
          go_upto_region 16 with fail
          obtain ⟨w6, hw6⟩ : ∃ w6, w6 = w5.alloc (.cells (replyC a1) 26) := ⟨_, rfl⟩
          obtain ⟨g6, hg6⟩ : ∃ g, g = w5.heap.size := ⟨_, rfl⟩
          have hx6 : Ext w4 w6 := by rw [hw6]; exact hx.alloc _
          have HT6 := Lib.hid (HT4.out.ext_ hx6)
          have HR6 := Lib.hid (blk_ext HR4.out hx6)
          have HQ6 := Lib.hid (show w6.heap[g6]? = some (.cells (replyC a1) 26 (0, 0)) by rw [hw6]; exact heap_new w5 g6 hg6.symm _)
          unfold replyC at hw6
          rw [← hw6, ← hg6]
          clear hw6 hg6 hx hx6 x0 x1 x2 x3 x4 x5 x6 x7 x8 x9 x10 x11
          obtain ⟨z0, z1, z2, z3, z4, z5, z6, z7⟩ := rep_cells (r := a1) HR6.out
          obtain ⟨y0, y1, y2, y3, y4, y5, y6, y7⟩ := rep_cells HQ6.out
          have hq := fun W => reply_neq W a1 a1
          rw [show beqR a1 a1 = true by simp [beqR]] at hq
          simp only [replyC] at hq
          have hq2 : (a2 != a2) = false := by simp
          have hq3 : (a3 != a3) = false := by simp
          go_wp2_with fail
          go_meet
          exact ⟨p, b, E, L, rfl, HT6⟩
        have q1 : (op6 d.op == 1) = false := beq_eq_false_iff_ne.2 h1
        clear h1
        by_cases h4 : op6 d.op = 4
        · have q4 : (op6 d.op == 4) = true := beq_iff_eq.2 h4
          clear h4
          go_upto_region 19 with fail
          refine splB w p b px g E L d HT2 HD2 HGB.out.1 HGB.out.2 HI.out ?_
          intros
          rename_i w3 hrel
          go_wp2_with fail
          go_meet
          exact ⟨p, b, E, _, rfl, hrel⟩
        have q4 : (op6 d.op == 4) = false := beq_eq_false_iff_ne.2 h4
        clear h4
        by_cases h5 : op6 d.op = 5
        · have q5 : (op6 d.op == 5) = true := beq_iff_eq.2 h5
          clear h5
          go_wp2_with fail
          refine (SClone_calls w2 p b L HT2.out.tab).mono ?_
          rintro e w3 ⟨p', b', hp', hb', rfl, ht, hx⟩
          have HP := Lib.hid hp'
          have HB := Lib.hid hb'
          have HT3 := Lib.hid ht
          have HX3 := Lib.hid hx
          clear hp' hb' ht hx
          go_wp2_with fail
          refine (Expire_calls w3 p b L 4611686018427387904 HT2.out.ok.rise HT2.out.ok.len1 (HT2.out.tab.ext HX3.out)).mono ?_
          rintro e w4 ⟨rfl, -, hu⟩
          have HT4 := Lib.hid (HT2.out.clone HP.out HB.out HT3.out HX3.out hu)
          clear hu
          go_wp2_with fail
          go_meet
          exact ⟨p', b', _, L, rfl, HT4⟩
        have q5 : (op6 d.op == 5) = false := beq_eq_false_iff_ne.2 h5
        clear h5
        go_upto_region 8 with fail
        refine splC w p b px g E L d HT2 HD2 HGB.out.1 HGB.out.2 HI.out ?_
        intros
        rename_i w3 hrel
        go_wp2_with fail
        go_meet
        exact ⟨p, b, E, _, rfl, hrel⟩
      case rest =>
        obtain ⟨p', b', E', L', rfl, HT3⟩ := hcut
        clear HT2 HD2 HGB x0 x1 x2 x3 x4 x5 x6 x7 x8 x9 x10 x11
        go_wp2_with fail
        refine (tells_calls wc p' b' px E' L' HT3.out.ok HT3.out.tab HT3.out.ref).mono ?_
        rintro e w4 ⟨rfl, hx⟩
        have HT4 := Lib.hid (HT3.out.ext_ hx)
        clear hx HT3
        go_wp2_with fail
        go_roundw
        case rel => exact ⟨j + 1, p', b', E', L', by omega, rfl, by go_num, HT4⟩
        case measure => simp [intOf]; omega
    · obtain rfl : j = l.length := by omega
      go_wp2_with fail
      refine (awk _ HT.out.ext).mono ?_
      rintro e w' ⟨rfl, HE⟩
      go_wp2_with fail
      go_ret
      exact ⟨rfl, HE.out⟩
end Go.Proofs.Ytkedmpppfejofaa
