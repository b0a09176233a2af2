/-
  Texts of this claim, put together: MsgRgP, MsgRGt.
-/
import Derived.Test.YtfflcnlgkbgbhaaZ16
import Derived.Test.YtfflcnlgkbgbhaaZ8
set_option linter.unusedVariables false
set_option linter.unusedSimpArgs false
namespace Go.Proofs.Ytfflcnlgkbgbhaa
open Go.RowKit

set_option maxRecDepth 1000000 in
set_option maxHeartbeats 4000000 in
theorem rg20 {K : Act → World → Prop} {Q : Exit → Act → World → Prop} {w : World} {c0 c1 c2 c3 c4 c5 c6 c7 c8 c11 c12 c13 c14 c15 c16 c17 c18 c19 c20 c21 c22 c23 c24 c25 c26 c27 c28 c29 c30 c31 c32 c33 c34 c35 c36 c37 c38 c39 c40 c41 c42 c43 c44 c45 c46 c47 c48 c49 c50 c51 c52 c53 c54 c55 c56 c57 c58 c59 c60 c61 c62 c63 c64 c65 c66 c67 c68 c69 c70 c71 c72 c73 c74 c75 c76 c77 c78 c79 c80 c81 c82 c83 c84 c85 c86 c87 c88 c89 c90 c91 c92 c93 c94 c95 c96 c97 c98 c99 c100 c101 c102 c103 c104 c105 c106 c107 c108 c109 c110 c111 c112 c113 c114 c115 c116 c117 c118 c119 c120 c121 c122 c123 c124 c125 c126 c127 c128 c129 c130 c131 c132 c133 c134 c135 c136 c137 : Value} (k c : Nat) (hk : k ≤ 9) (hc : c < 9223372036854775808) (b : Bool) (hb : b = decide (k < c ∧ k < 9))
    (hK : ∀ (u65 u66 u67 u68 u69 u70 : Value) (wx : World), wx = w → K ⟨#[c0, c1, c2, c3, c4, c5, c6, c7, c8, .int .i64 (c : Int), .int .i64 (k : Int), c11, c12, c13, c14, c15, c16, c17, c18, c19, c20, c21, c22, c23, c24, c25, c26, c27, c28, c29, c30, c31, c32, c33, c34, c35, c36, c37, c38, c39, c40, c41, c42, c43, c44, c45, c46, c47, c48, c49, c50, c51, c52, c53, c54, c55, c56, c57, c58, c59, c60, c61, c62, c63, c64, u65, u66, u67, u68, u69, u70, .bool b, c72, c73, c74, c75, c76, c77, c78, c79, c80, c81, c82, c83, c84, c85, c86, c87, c88, c89, c90, c91, c92, c93, c94, c95, c96, c97, c98, c99, c100, c101, c102, c103, c104, c105, c106, c107, c108, c109, c110, c111, c112, c113, c114, c115, c116, c117, c118, c119, c120, c121, c122, c123, c124, c125, c126, c127, c128, c129, c130, c131, c132, c133, c134, c135, c136, c137], []⟩ wx) :
    Code.wp Try.prog ((Try.f19.body.bind (regionAt 20)).getD .skip) (Exit.then K Q) ⟨#[c0, c1, c2, c3, c4, c5, c6, c7, c8, .int .i64 (c : Int), .int .i64 (k : Int), c11, c12, c13, c14, c15, c16, c17, c18, c19, c20, c21, c22, c23, c24, c25, c26, c27, c28, c29, c30, c31, c32, c33, c34, c35, c36, c37, c38, c39, c40, c41, c42, c43, c44, c45, c46, c47, c48, c49, c50, c51, c52, c53, c54, c55, c56, c57, c58, c59, c60, c61, c62, c63, c64, c65, c66, c67, c68, c69, c70, c71, c72, c73, c74, c75, c76, c77, c78, c79, c80, c81, c82, c83, c84, c85, c86, c87, c88, c89, c90, c91, c92, c93, c94, c95, c96, c97, c98, c99, c100, c101, c102, c103, c104, c105, c106, c107, c108, c109, c110, c111, c112, c113, c114, c115, c116, c117, c118, c119, c120, c121, c122, c123, c124, c125, c126, c127, c128, c129, c130, c131, c132, c133, c134, c135, c136, c137], []⟩ w := by
  conv => arg 2; whnf
  have hK2 := Lib.hid @hK
  clear hK
  by_cases h1 : k < c
  · have hki : (k : Int) < (c : Int) := by omega
    by_cases h2 : k < 9
    · have hbt : b = true := by rw [hb]; exact decide_eq_true ⟨h1, h2⟩
      have hd1 : decide ((k : Int) < 9) = true := decide_eq_true (by omega)
      have hd2 : decide (k < 9) = true := decide_eq_true h2
      subst hbt
      clear hb h1
      go_wp2_with fail
      exact hK2.out _ _ _ _ _ _ _  rfl
    · have hbt : b = false := by rw [hb]; exact decide_eq_false (fun h => h2 h.2)
      have hd1 : decide ((k : Int) < 9) = false := decide_eq_false (by omega)
      have hd2 : decide (k < 9) = false := decide_eq_false h2
      subst hbt
      clear hb h1
      go_wp2_with fail
      exact hK2.out _ _ _ _ _ _ _  rfl
  · have hbt : b = false := by rw [hb]; exact decide_eq_false (fun h => h1 h.1)
    subst hbt
    clear hb
    go_wp2_with fail
    exact hK2.out _ _ _ _ _ _ _  rfl

set_option maxRecDepth 1000000 in
set_option maxHeartbeats 4000000 in
theorem rg28 {K : Act → World → Prop} {Q : Exit → Act → World → Prop} {w : World} {c0 c1 c2 c3 c4 c5 c6 c7 c8 c10 c11 c13 c14 c15 c16 c17 c18 c19 c20 c21 c22 c23 c24 c25 c26 c27 c28 c29 c30 c31 c32 c33 c34 c35 c36 c37 c38 c39 c40 c41 c42 c43 c44 c45 c46 c47 c48 c49 c50 c51 c52 c53 c54 c55 c56 c57 c58 c59 c60 c61 c62 c63 c64 c65 c66 c67 c68 c69 c70 c71 c72 c73 c74 c75 c76 c77 c78 c79 c80 c81 c82 c83 c84 c85 c86 c87 c88 c89 c90 c91 c92 c93 c94 c95 c96 c97 c98 c99 c100 c101 c102 c103 c104 c105 c106 c107 c108 c109 c110 c111 c112 c113 c114 c115 c116 c117 c118 c119 c120 c121 c122 c123 c124 c125 c126 c127 c128 c129 c130 c131 c132 c133 c134 c135 c136 c137 : Value} (k c : Nat) (hk : k ≤ 9) (hc : c < 9223372036854775808) (b : Bool) (hb : b = decide (k < c ∧ k < 9))
    (hK : ∀ (u95 u96 u97 u98 u99 u100 : Value) (wx : World), wx = w → K ⟨#[c0, c1, c2, c3, c4, c5, c6, c7, c8, .int .i64 (c : Int), c10, c11, .int .i64 (k : Int), c13, c14, c15, c16, c17, c18, c19, c20, c21, c22, c23, c24, c25, c26, c27, c28, c29, c30, c31, c32, c33, c34, c35, c36, c37, c38, c39, c40, c41, c42, c43, c44, c45, c46, c47, c48, c49, c50, c51, c52, c53, c54, c55, c56, c57, c58, c59, c60, c61, c62, c63, c64, c65, c66, c67, c68, c69, c70, c71, c72, c73, c74, c75, c76, c77, c78, c79, c80, c81, c82, c83, c84, c85, c86, c87, c88, c89, c90, c91, c92, c93, c94, u95, u96, u97, u98, u99, u100, .bool b, c102, c103, c104, c105, c106, c107, c108, c109, c110, c111, c112, c113, c114, c115, c116, c117, c118, c119, c120, c121, c122, c123, c124, c125, c126, c127, c128, c129, c130, c131, c132, c133, c134, c135, c136, c137], []⟩ wx) :
    Code.wp Try.prog ((Try.f19.body.bind (regionAt 28)).getD .skip) (Exit.then K Q) ⟨#[c0, c1, c2, c3, c4, c5, c6, c7, c8, .int .i64 (c : Int), c10, c11, .int .i64 (k : Int), c13, c14, c15, c16, c17, c18, c19, c20, c21, c22, c23, c24, c25, c26, c27, c28, c29, c30, c31, c32, c33, c34, c35, c36, c37, c38, c39, c40, c41, c42, c43, c44, c45, c46, c47, c48, c49, c50, c51, c52, c53, c54, c55, c56, c57, c58, c59, c60, c61, c62, c63, c64, c65, c66, c67, c68, c69, c70, c71, c72, c73, c74, c75, c76, c77, c78, c79, c80, c81, c82, c83, c84, c85, c86, c87, c88, c89, c90, c91, c92, c93, c94, c95, c96, c97, c98, c99, c100, c101, c102, c103, c104, c105, c106, c107, c108, c109, c110, c111, c112, c113, c114, c115, c116, c117, c118, c119, c120, c121, c122, c123, c124, c125, c126, c127, c128, c129, c130, c131, c132, c133, c134, c135, c136, c137], []⟩ w := by
  conv => arg 2; whnf
  have hK2 := Lib.hid @hK
  clear hK
  by_cases h1 : k < c
  · have hki : (k : Int) < (c : Int) := by omega
    by_cases h2 : k < 9
    · have hbt : b = true := by rw [hb]; exact decide_eq_true ⟨h1, h2⟩
      have hd1 : decide ((k : Int) < 9) = true := decide_eq_true (by omega)
      have hd2 : decide (k < 9) = true := decide_eq_true h2
      subst hbt
      clear hb h1
      go_wp2_with fail
      exact hK2.out _ _ _ _ _ _ _  rfl
    · have hbt : b = false := by rw [hb]; exact decide_eq_false (fun h => h2 h.2)
      have hd1 : decide ((k : Int) < 9) = false := decide_eq_false (by omega)
      have hd2 : decide (k < 9) = false := decide_eq_false h2
      subst hbt
      clear hb h1
      go_wp2_with fail
      exact hK2.out _ _ _ _ _ _ _  rfl
  · have hbt : b = false := by rw [hb]; exact decide_eq_false (fun h => h1 h.1)
    subst hbt
    clear hb
    go_wp2_with fail
    exact hK2.out _ _ _ _ _ _ _  rfl

set_option maxRecDepth 1000000 in
set_option maxHeartbeats 4000000 in
theorem rg30 {Q : Exit → Act → World → Prop} {w : World} {c0 c1 c2 c3 c4 c5 c6 c9 c10 c11 c12 c13 c14 c15 c16 c17 c18 c19 c20 c21 c22 c23 c24 c25 c26 c27 c28 c29 c30 c31 c32 c33 c34 c35 c36 c37 c38 c39 c40 c41 c42 c43 c44 c45 c46 c47 c48 c49 c50 c51 c52 c53 c54 c55 c56 c57 c58 c59 c60 c61 c62 c63 c64 c65 c66 c67 c68 c69 c70 c71 c72 c73 c74 c75 c76 c77 c78 c79 c80 c81 c82 c83 c84 c85 c86 c87 c88 c89 c90 c91 c92 c93 c94 c95 c96 c97 c98 c99 c100 c101 c102 c103 c104 c105 c106 c107 c108 c109 c110 c111 c112 c113 c114 c115 c116 c117 c118 c119 c120 c121 c122 c123 c124 c125 c126 c127 c128 c129 c130 c131 c132 c133 c134 c135 c136 c137 : Value} (w0 : World) (X : World → ScS → Prop) (C : Nat → Prop) (pm rr r cc : Nat) (SE : Nat → Prop) (L : Hid (Lay w0 C X pm rr SE (cc ≤ ·))) (Z : Hid (RscP X C r)) (a0 a1 a2 a3 a4 a5 a6 a7 : Nat) (y d : Bool) (ve vv : Value) (es : List EntS) (vs : List Int) (n : Nat) (hvs : vs.length ≤ 9) (hn : n < 9223372036854775808) (s s1 : ScS) (q1 : s.number = (n, s1)) (h : Hid (RdW w0 cc X pm rr SE (cc ≤ ·) w (msgC ⟨a0, a1, a2, a3, a4, a5, a6, a7, y, d, [], [], []⟩ ve vv (.slice none 0 0)) ve es vv vs s))
    (hK : ∀ (u104 u105 u106 u107 u108 u109 u110 : Value) (wx : World), Hid (RdW w0 cc X pm rr SE (cc ≤ ·) wx (msgC ⟨a0, a1, a2, a3, a4, a5, a6, a7, y, d, [], [], []⟩ ve u109 (.slice none 0 0)) ve es u109 (vs ++ [(n : Int)]) s1) → Q .normal ⟨#[c0, c1, c2, c3, c4, c5, c6, .pointer (some ⟨r, 0, none⟩), .pointer (some ⟨pm, 0, none⟩), c9, c10, c11, c12, c13, c14, c15, c16, c17, c18, c19, c20, c21, c22, c23, c24, c25, c26, c27, c28, c29, c30, c31, c32, c33, c34, c35, c36, c37, c38, c39, c40, c41, c42, c43, c44, c45, c46, c47, c48, c49, c50, c51, c52, c53, c54, c55, c56, c57, c58, c59, c60, c61, c62, c63, c64, c65, c66, c67, c68, c69, c70, c71, c72, c73, c74, c75, c76, c77, c78, c79, c80, c81, c82, c83, c84, c85, c86, c87, c88, c89, c90, c91, c92, c93, c94, c95, c96, c97, c98, c99, c100, c101, c102, c103, u104, u105, u106, u107, u108, u109, u110, c111, c112, c113, c114, c115, c116, c117, c118, c119, c120, c121, c122, c123, c124, c125, c126, c127, c128, c129, c130, c131, c132, c133, c134, c135, c136, c137], []⟩ wx) :
    Code.wp Try.prog ((Try.f19.body.bind (regionAt 30)).getD .skip) Q ⟨#[c0, c1, c2, c3, c4, c5, c6, .pointer (some ⟨r, 0, none⟩), .pointer (some ⟨pm, 0, none⟩), c9, c10, c11, c12, c13, c14, c15, c16, c17, c18, c19, c20, c21, c22, c23, c24, c25, c26, c27, c28, c29, c30, c31, c32, c33, c34, c35, c36, c37, c38, c39, c40, c41, c42, c43, c44, c45, c46, c47, c48, c49, c50, c51, c52, c53, c54, c55, c56, c57, c58, c59, c60, c61, c62, c63, c64, c65, c66, c67, c68, c69, c70, c71, c72, c73, c74, c75, c76, c77, c78, c79, c80, c81, c82, c83, c84, c85, c86, c87, c88, c89, c90, c91, c92, c93, c94, c95, c96, c97, c98, c99, c100, c101, c102, c103, c104, c105, c106, c107, c108, c109, c110, c111, c112, c113, c114, c115, c116, c117, c118, c119, c120, c121, c122, c123, c124, c125, c126, c127, c128, c129, c130, c131, c132, c133, c134, c135, c136, c137], []⟩ w := by
  conv => arg 2; whnf
  have hK2 := Lib.hid @hK
  have HQ1 := Lib.hid q1
  have HIN := Lib.hid (show I64 (n : Int) by unfold I64; omega)
  have HVL := Lib.hid hvs
  have HS0 := Lib.hid (show ∀ W vx v vs' s, RdW w0 cc X pm rr SE (cc ≤ ·) W (msgC ⟨a0, a1, a2, a3, a4, a5, a6, a7, y, d, [], [], []⟩ ve vx (.slice none 0 0)) ve es v vs' s → W.frozen? ⟨pm, 11, none⟩ = false from
    fun W vx v vs' s hh => frozen_blk hh.msg 11)
  have HS1 := Lib.hid (show ∀ W v vs' s, RdW w0 cc X pm rr SE (cc ≤ ·) W (msgC ⟨a0, a1, a2, a3, a4, a5, a6, a7, y, d, [], [], []⟩ ve vv (.slice none 0 0)) ve es v vs' s → W.cell? ⟨pm, 11, none⟩ = some vv from
    fun W v vs' s hh => cell_blk hh.msg 11)
  clear hK hvs hn q1
  have hrd0 := h.out.ext_ L.out (Ext.refl w).drew
  refine wpF_region (fun W => W.frozen? ⟨pm, 11, none⟩ = false) (fun W => W.cell? ⟨pm, 11, none⟩ = some vv) 5 8 (by kernel_rfl) (by kernel_rfl) ?_
  refine wpF_take0 (i := 0) (v := ?v1) rfl (by kernel_rfl) (by kernel_rfl) (by kernel_rfl) (fun _ _ _ h => h) (by kernel_rfl) (Or.inl ⟨by rfl, ?hy1⟩) (HS0.out _ _ _ _ _ hrd0) (fun _ => HS1.out _ _ _ _ hrd0) ?rest1
  case hy1 => (intro W hSW; (try dsimp only at hSW); go_simp; (try with_reducible rfl))
  (try simp only [Act.put, List.setIfInBounds_toArray, List.set_cons_zero, List.set_cons_succ])
  refine wpF_take1 (i := 1) (v := ?v2) rfl (by kernel_rfl) (by kernel_rfl) (by kernel_rfl) (fun _ _ _ h => h) (by kernel_rfl) (by kernel_rfl) (by kernel_rfl) (Or.inl ⟨by rfl, ?hy2⟩) (HS0.out _ _ _ _ _ hrd0) (fun _ => HS1.out _ _ _ _ hrd0) ?rest2
  case hy2 => (intro W hSW; (try dsimp only at hSW); go_simp; (try with_reducible rfl))
  (try simp only [Act.put, List.setIfInBounds_toArray, List.set_cons_zero, List.set_cons_succ])
  refine wpF_take0 (i := 2) (v := ?v3) rfl (by kernel_rfl) (by kernel_rfl) (by kernel_rfl) (fun _ _ _ h => h) (by kernel_rfl) (Or.inl ⟨by rfl, ?hy3⟩) (HS0.out _ _ _ _ _ hrd0) (fun _ => HS1.out _ _ _ _ hrd0) ?rest3
  case hy3 => (intro W hSW; (try dsimp only at hSW); go_simp; (try with_reducible rfl))
  (try simp only [Act.put, List.setIfInBounds_toArray, List.set_cons_zero, List.set_cons_succ])
  refine wpF_step (i := 3) (by kernel_rfl) rfl (fun K hK => ?_)
  go_simp
  refine (Z.out.number L.out hrd0 HQ1.out).mono ?_
  rintro e w4 ⟨rfl, hrd4, hu4⟩
  (try go_wp2_with fail)
  refine hK.out _ _ (HS0.out _ _ _ _ _ hrd4) (fun _ => HS1.out _ _ _ _ hrd4) ?_
  clear hK K
  (try simp only [Act.put, List.setIfInBounds_toArray, List.set_cons_zero, List.set_cons_succ])
  have hrd7 := hrd4.ext_ L.out ((Ext.refl _).alloc (.cells #[.int .i64 (n : Int)] 3))
  refine wpF_step (i := 4) (by kernel_rfl) rfl (fun K hK => ?_)
  go_simp
  refine hK.out _ _ (HS0.out _ _ _ _ _ hrd7) (fun _ => HS1.out _ _ _ _ hrd7) ?_
  clear hK K
  (try simp only [Act.put, List.setIfInBounds_toArray, List.set_cons_zero, List.set_cons_succ])
  refine wpF_step (i := 5) (by kernel_rfl) rfl (fun K hK => ?_)
  refine step_app_int 109 105 108 rfl rfl rfl (n : Int) HIN.out HVL.out L.out hrd4 rfl rfl ?_
  intro v6 w6 hrd8
  obtain ⟨A6, x6, m6, e6⟩ : ∃ A x m, v6 = .slice A x m := by obtain ⟨A, c, e, _⟩ := id hrd8.vot.rs; exact ⟨_, _, _, e⟩
  subst e6
  refine hK.out _ _ (HS0.out _ _ _ _ _ hrd8) (gone (by kernel_rfl)) ?_
  clear hK K
  (try simp only [Act.put, List.setIfInBounds_toArray, List.set_cons_zero, List.set_cons_succ])
  refine wpF_take0 (i := 6) (v := ?v4) rfl (by kernel_rfl) (by kernel_rfl) (by kernel_rfl) (fun _ _ _ h => h) (by kernel_rfl) (Or.inl ⟨by rfl, ?hy4⟩) (HS0.out _ _ _ _ _ hrd8) (gone (by kernel_rfl)) ?rest4
  case hy4 => (intro W hSW; (try dsimp only at hSW); go_simp; (try with_reducible rfl))
  (try simp only [Act.put, List.setIfInBounds_toArray, List.set_cons_zero, List.set_cons_succ])
  have hc10 := HS1.out _ _ _ _ hrd8
  have hf10 := HS0.out _ _ _ _ _ hrd8
  have hrd9 := (show RdW w0 cc X pm rr SE (cc ≤ ·) (w6.setCell ⟨pm, 11, none⟩ (.slice A6 x6 m6)) (msgC ⟨a0, a1, a2, a3, a4, a5, a6, a7, y, d, [], [], []⟩ ve (.slice A6 x6 m6) (.slice none 0 0)) ve es (.slice A6 x6 m6) (vs ++ [(n : Int)]) s1 from hrd8.set L.out 11 (.slice A6 x6 m6))
  refine wpF_step (i := 7) (by kernel_rfl) rfl (fun K hK => ?_)
  go_simp
  refine hK.out _ _ (HS0.out _ _ _ _ _ hrd9) (gone (by kernel_rfl)) ?_
  clear hK K
  (try simp only [Act.put, List.setIfInBounds_toArray, List.set_cons_zero, List.set_cons_succ])
  refine wpF_done (by kernel_rfl) ?_ _
  refine NoPanic.normal ?_
  exact hK2.out _ _ _ _ _ _ _ _  (Lib.hid hrd9)
end Go.Proofs.Ytfflcnlgkbgbhaa
set_option linter.unusedVariables false
set_option linter.unusedSimpArgs false
namespace Go.Proofs.Ytfflcnlgkbgbhaa
open Go.RowKit

set_option maxRecDepth 1000000 in
set_option maxHeartbeats 8000000 in
theorem RGet_calls (w : World) (S : Nat → Prop) (v : Value) (b : List UInt8) (hr : Rs kByte w S v b) :
    Calls Try.prog 19 #[v] w fun e w' => ∃ mv, e = .returned (.tuple #[mv, .int .i64 ((getR b).2 : Int)]) ∧ MsgV w' (w.heap.size ≤ ·) mv (getR b).1 ∧ Ext w w' := by
  have HR := Lib.hid hr.under
  obtain ⟨A, c, rfl, hl, hc, hz, hrow⟩ := hr
  clear hrow
  go_enter Try.func19, Try.ntmps19
  go_wp2_with fail
  obtain ⟨w1, hw1⟩ : ∃ w1, w1 = w.alloc (.cells (msgC zeroM (.slice none 0 0) (.slice none 0 0) (.slice none 0 0)) 26) := ⟨_, rfl⟩
  have HB1 := Lib.hid (show w1.heap[w.heap.size]? = some (.cells (msgC zeroM (.slice none 0 0) (.slice none 0 0) (.slice none 0 0)) 26 (0, 0)) by rw [hw1]; exact heap_new w _ rfl _)
  have HX1 := Lib.hid (show Ext w w1 by rw [hw1]; exact (Ext.refl w).alloc _)
  have hs1 : w1.heap.size = w.heap.size + 1 := by rw [hw1]; simp
  unfold msgC zeroM at hw1
  rw [← hw1]
  clear hw1
  refine (RefPick_calls _ _ _ b (HR.out.ext HX1.out)).mono ?_
  rintro e w2 ⟨u, rfl, ho, hx⟩
  have HO := Lib.hid ho.under.rs
  have HO2 := Lib.hid ho.rs
  have HB2 := Lib.hid (blk_ext HB1.out hx)
  have HX2 := Lib.hid (HX1.out.trans hx)
  have h12 := hx.le
  rw [hs1] at h12 HO2
  obtain ⟨Ap, cp, e1, _⟩ := id ho.rs
  subst e1
  have hpn := pick_bad' b
  have hpl := pick_ok b
  clear ho hx HB1
  obtain ⟨⟨x0, x1, x2, x3, x4, x5, x6, x7, x8, x9, x10, x11, x12⟩, ⟨y0, y1, y2, y3, y4, y5, y6, y7, y8, y9, y10, y11, y12⟩⟩ := msg_cells HB2.out
  simp only [zeroM] at x0 x1 x2 x3 x4 x5 x6 x7 x8 x9
  have HSM := Lib.hid (setM_heap w2 w.heap.size zeroM (.slice none 0 0) (.slice none 0 0) (.slice none 0 0) HB2.out)
  have HXM := Lib.hid ((setM_upd w2 w.heap.size zeroM (.slice none 0 0) (.slice none 0 0) (.slice none 0 0)).ext HX2.out (fun k hk => by have : k = w.heap.size := hk; omega))
  by_cases h0 : (pick b).2.2 ≠ 0
  · have HG := Lib.hid (show getR b = (zeroM, (pick b).2.2) by unfold getR; rw [if_pos h0])
    have hne : (((pick b).2.2 : Int) != 0) = true := bne_iff_ne.2 (by omega)
    clear h0 hpl
    go_wp2_with fail
    (try simp only [Exit.inBlock, Exit.then])
    refine bodyPost_ret (results_msg rfl _ _ _ _ _ _ _ _ _ rfl HSM.out) rfl ?_
    rw [HG.out]
    exact ⟨_, rfl, zero_V _ _, HXM.out⟩
  · have h00 : (pick b).2.2 = 0 := by omega
    have hne : (((pick b).2.2 : Int) != 0) = false := by rw [h00]; rfl
    obtain ⟨-, hle, -⟩ := hpl h00
    by_cases h1 : (pick b).2.1 < b.length
    · have HG := Lib.hid (show getR b = (zeroM, 3) by unfold getR; rw [if_neg h0, if_pos h1])
      have hne2 : decide (((pick b).2.1 : Int) < (b.length : Int)) = true := decide_eq_true (by omega)
      have hne3 : ((pick b).2.1 : Int) < (b.length : Int) := by omega
      clear h0 h00 hpl
      go_wp2_with fail
      (try simp only [Exit.inBlock, Exit.then])
      refine bodyPost_ret (results_msg rfl _ _ _ _ _ _ _ _ _ rfl HSM.out) rfl ?_
      rw [HG.out]
      exact ⟨_, rfl, zero_V _ _, HXM.out⟩
    · have hne2 : decide (((pick b).2.1 : Int) < (b.length : Int)) = false := decide_eq_false (by omega)
      have hne3 : ¬ ((pick b).2.1 : Int) < (b.length : Int) := by omega
      have HG0 := Lib.hid (show getR b = if okR b (readR (pick b).1) = true then ((readR (pick b).1).1, 0) else (zeroM, 122) by unfold getR; rw [if_neg h0, if_neg h1])
      clear h0 h1 h00 HSM HXM x0 x1 x2 x3 x4 x5 x6 x7 x8 x9 x10 x11 x12 y0 y1 y2 y3 y4 y5 y6 y7 y8 y9 y10 y11 y12 hpl
      generalize (pick b).1 = bs at HO HO2 HG0 ⊢
      go_upto_region 8 with fail
      obtain ⟨r, hrr⟩ : ∃ r, r = w2.heap.size := ⟨_, rfl⟩
      obtain ⟨w3, hw3⟩ : ∃ w3, w3 = (w2.alloc (.cells #[.slice Ap bs.length cp, .int .i64 0, .int .i64 0] 90)).alloc (.cells (msgC ⟨0, 0, 0, 0, 0, 0, 0, 0, false, false, [], [], []⟩ (.slice none 0 0) (.slice none 0 0) (.slice none 0 0)) 26) := ⟨_, rfl⟩
      obtain ⟨c1, hc1⟩ : ∃ c1, c1 = w3.heap.size := ⟨_, rfl⟩
      have hs3 : w3.heap.size = r + 2 := by rw [hw3, hrr]; simp
      have HX3 := Lib.hid (show Ext w2 w3 by rw [hw3]; exact ((Ext.refl w2).alloc _).alloc _)
      obtain ⟨X, hX⟩ : ∃ X : World → ScS → Prop, X = (fun W s => Rc W r (fun x => w.heap.size + 1 ≤ x ∧ x < r) s) := ⟨_, rfl⟩
      have HL := Lib.hid (show Lay w (fun x => w.heap.size + 1 ≤ x ∧ x ≤ r) X (r + 1) w.heap.size (c1 ≤ ·) (fun _ => False) from
        ⟨by omega, by omega, by omega, fun x h => by omega, fun x h => by have : c1 ≤ x := h; omega, fun x h => h.elim, fun x h h2 => h2, fun {W W' s} h hk => by
          rw [hX] at h ⊢
          obtain ⟨v, h1, h2, h3⟩ := h
          exact ⟨v, (hk r (blk_lt h1) (.inr ⟨by omega, Nat.le_refl _⟩)).trans h1, h2.keep fun x hx hl => hk x hl (.inr ⟨hx.1, Nat.le_of_lt hx.2⟩), h3⟩⟩)
      have HZ := Lib.hid (show RscP X (fun x => w.heap.size + 1 ≤ x ∧ x ≤ r) r from
        ⟨fun W s h => by rw [hX] at h; exact ⟨_, h, fun W' s' h' => by rw [hX]; exact h'⟩, fun W W' h => h.mono fun x hx => by have : x = r := hx; omega⟩)
      have HRD0 := Lib.hid (show RdW w c1 X (r + 1) w.heap.size (c1 ≤ ·) (fun _ => False) w3 (msgC ⟨0, 0, 0, 0, 0, 0, 0, 0, false, false, [], [], []⟩ (.slice none 0 0) (.slice none 0 0) (.slice none 0 0)) (.slice none 0 0) [] (.slice none 0 0) [] ⟨bs, 0, 0⟩ from
        ⟨by rw [hw3, hrr]; exact heap_new _ _ (by simp) _, blk_ext HB2.out HX3.out, by
          rw [hX]
          exact ⟨_, by rw [hw3, hrr]; exact (Below.heap_alloc _ _ _ (by simp)).trans (heap_new _ _ rfl _), ((HO2.out.bound.mono fun x hx => ⟨hx.1, by rw [hrr]; exact hx.2⟩).ext HX3.out), fun h => by omega, Nat.zero_le _, by show (0 : Nat) ≤ 10; omega⟩,
          Ow.nil _ _ _ _ _, Ow.nil _ _ _ _ _, HX2.out.trans HX3.out, by omega⟩)
      have HQ := Lib.hid (show readR bs = rdMsg false 9 ⟨bs, 0, 0⟩ from rfl)
      unfold msgC at hw3
      rw [← hw3]
      rw [← hrr]
      have HRR := Lib.hid hrr
      have HRW := Lib.hid (show w.heap.size + 1 ≤ r by rw [hrr]; exact h12)
      have HXD := Lib.hid hX
      have HC1 := Lib.hid hc1
      have HS3 := Lib.hid hs3
      clear hw3 hX HX3 HO HO2 HB2 hrr hc1 hs3 hs1 h12 hpn hle hne hne2 hne3
      obtain ⟨a0, s1, q0⟩ := asPair (⟨bs, 0, 0⟩ : ScS).number
      obtain ⟨a1, s2, q1⟩ := asPair s1.number
      obtain ⟨a2, s3, q2⟩ := asPair s2.number
      obtain ⟨a3, s4, q3⟩ := asPair s3.number
      obtain ⟨a4, s5, q4⟩ := asPair s4.number
      obtain ⟨a5, s6, q5⟩ := asPair s5.number
      obtain ⟨a6, s7, q6⟩ := asPair s6.number
      obtain ⟨a7, s8, q7⟩ := asPair s7.number
      obtain ⟨y, sy, q8⟩ := asPair s8.flag
      obtain ⟨d, sd, q9⟩ := asPair sy.flag
      obtain ⟨cn, sc, q10⟩ := asPair sd.number
      obtain ⟨es, se, q11⟩ := asPair (rdEnts false (a4 : Int) cn 9 0 sc)
      obtain ⟨vn, sv, q12⟩ := asPair se.number
      obtain ⟨vs, svs, q13⟩ := asPair (rdNums false vn 9 0 sv)
      obtain ⟨t, st, q14⟩ := asPair (svs.text 512)
      have hNA : ([a0, a1, a2, a3, a4, a5, a6, a7], s8) = numsA ⟨bs, 0, 0⟩ 8 := by
        simp only [numsA, q0, q1, q2, q3, q4, q5, q6, q7, List.nil_append, List.cons_append]
      replace HQ := Lib.hid (show readR bs = (⟨a0, a1, a2, a3, a4, a5, a6, a7, y, d, es, vs, t⟩, cn, vn, st) from rdMsg_of hNA q8 q9 q10 q11 q12 q13 q14)
      have HAB := Lib.hid (show ∀ x ∈ [a0, a1, a2, a3, a4, a5, a6, a7], x < 9223372036854775808 from by
        have h := (numsA_ok ⟨bs, 0, 0⟩ ⟨Nat.zero_le _, by show (0 : Nat) ≤ 10; omega⟩ 8).2
        rw [← hNA] at h; exact h)
      have HTL := Lib.hid (show t.length ≤ 512 by have := text_len svs 512; rw [q14] at this; simpa using this)
      clear hNA
      have Q0 := Lib.hid q0
      have Q1 := Lib.hid q1
      have Q2 := Lib.hid q2
      have Q3 := Lib.hid q3
      have Q4 := Lib.hid q4
      have Q5 := Lib.hid q5
      have Q6 := Lib.hid q6
      have Q7 := Lib.hid q7
      have Q8 := Lib.hid q8
      have Q9 := Lib.hid q9
      have Q10 := Lib.hid q10
      have Q11 := Lib.hid q11
      have Q12 := Lib.hid q12
      have Q13 := Lib.hid q13
      have Q14 := Lib.hid q14
      clear q0 q1 q2 q3 q4 q5 q6 q7 q8 q9 q10 q11 q12 q13 q14
      go_wp2_with fail
      refine (HZ.out.number HL.out HRD0.out Q0.out).mono ?_
      rintro e v0 ⟨rfl, hrd, -⟩
      have hc20 := cell_blk hrd.msg 0
      have hf20 := frozen_blk hrd.msg 0
      simp only [msgC, List.getElem?_toArray, List.getElem?_cons_zero, List.getElem?_cons_succ] at hc20
      have HRD1 := Lib.hid (show RdW w c1 X (r + 1) w.heap.size (c1 ≤ ·) (fun _ => False) (v0.setCell ⟨r + 1, 0, none⟩ (.int .i64 (a0 : Int))) (msgC ⟨a0, 0, 0, 0, 0, 0, 0, 0, false, false, [], [], []⟩ (.slice none 0 0) (.slice none 0 0) (.slice none 0 0)) (.slice none 0 0) [] (.slice none 0 0) [] s1 from hrd.set HL.out 0 (.int .i64 (a0 : Int)))
      clear hrd HRD0
      go_wp2_with fail
      clear hc20 hf20
      refine (HZ.out.number HL.out HRD1.out Q1.out).mono ?_
      rintro e v1 ⟨rfl, hrd, -⟩
      have hc21 := cell_blk hrd.msg 1
      have hf21 := frozen_blk hrd.msg 1
      simp only [msgC, List.getElem?_toArray, List.getElem?_cons_zero, List.getElem?_cons_succ] at hc21
      have HRD2 := Lib.hid (show RdW w c1 X (r + 1) w.heap.size (c1 ≤ ·) (fun _ => False) (v1.setCell ⟨r + 1, 1, none⟩ (.int .i64 (a1 : Int))) (msgC ⟨a0, a1, 0, 0, 0, 0, 0, 0, false, false, [], [], []⟩ (.slice none 0 0) (.slice none 0 0) (.slice none 0 0)) (.slice none 0 0) [] (.slice none 0 0) [] s2 from hrd.set HL.out 1 (.int .i64 (a1 : Int)))
      clear hrd HRD1
      go_wp2_with fail
      clear hc21 hf21
      refine (HZ.out.number HL.out HRD2.out Q2.out).mono ?_
      rintro e v2 ⟨rfl, hrd, -⟩
      have hc22 := cell_blk hrd.msg 2
      have hf22 := frozen_blk hrd.msg 2
      simp only [msgC, List.getElem?_toArray, List.getElem?_cons_zero, List.getElem?_cons_succ] at hc22
      have HRD3 := Lib.hid (show RdW w c1 X (r + 1) w.heap.size (c1 ≤ ·) (fun _ => False) (v2.setCell ⟨r + 1, 2, none⟩ (.int .i64 (a2 : Int))) (msgC ⟨a0, a1, a2, 0, 0, 0, 0, 0, false, false, [], [], []⟩ (.slice none 0 0) (.slice none 0 0) (.slice none 0 0)) (.slice none 0 0) [] (.slice none 0 0) [] s3 from hrd.set HL.out 2 (.int .i64 (a2 : Int)))
      clear hrd HRD2
      go_wp2_with fail
      clear hc22 hf22
      refine (HZ.out.number HL.out HRD3.out Q3.out).mono ?_
      rintro e v3 ⟨rfl, hrd, -⟩
      have hc23 := cell_blk hrd.msg 3
      have hf23 := frozen_blk hrd.msg 3
      simp only [msgC, List.getElem?_toArray, List.getElem?_cons_zero, List.getElem?_cons_succ] at hc23
      have HRD4 := Lib.hid (show RdW w c1 X (r + 1) w.heap.size (c1 ≤ ·) (fun _ => False) (v3.setCell ⟨r + 1, 3, none⟩ (.int .i64 (a3 : Int))) (msgC ⟨a0, a1, a2, a3, 0, 0, 0, 0, false, false, [], [], []⟩ (.slice none 0 0) (.slice none 0 0) (.slice none 0 0)) (.slice none 0 0) [] (.slice none 0 0) [] s4 from hrd.set HL.out 3 (.int .i64 (a3 : Int)))
      clear hrd HRD3
      go_wp2_with fail
      clear hc23 hf23
      refine (HZ.out.number HL.out HRD4.out Q4.out).mono ?_
      rintro e v4 ⟨rfl, hrd, -⟩
      have hc24 := cell_blk hrd.msg 4
      have hf24 := frozen_blk hrd.msg 4
      simp only [msgC, List.getElem?_toArray, List.getElem?_cons_zero, List.getElem?_cons_succ] at hc24
      have HRD5 := Lib.hid (show RdW w c1 X (r + 1) w.heap.size (c1 ≤ ·) (fun _ => False) (v4.setCell ⟨r + 1, 4, none⟩ (.int .i64 (a4 : Int))) (msgC ⟨a0, a1, a2, a3, a4, 0, 0, 0, false, false, [], [], []⟩ (.slice none 0 0) (.slice none 0 0) (.slice none 0 0)) (.slice none 0 0) [] (.slice none 0 0) [] s5 from hrd.set HL.out 4 (.int .i64 (a4 : Int)))
      clear hrd HRD4
      go_wp2_with fail
      clear hc24 hf24
      refine (HZ.out.number HL.out HRD5.out Q5.out).mono ?_
      rintro e v5 ⟨rfl, hrd, -⟩
      have hc25 := cell_blk hrd.msg 5
      have hf25 := frozen_blk hrd.msg 5
      simp only [msgC, List.getElem?_toArray, List.getElem?_cons_zero, List.getElem?_cons_succ] at hc25
      have HRD6 := Lib.hid (show RdW w c1 X (r + 1) w.heap.size (c1 ≤ ·) (fun _ => False) (v5.setCell ⟨r + 1, 5, none⟩ (.int .i64 (a5 : Int))) (msgC ⟨a0, a1, a2, a3, a4, a5, 0, 0, false, false, [], [], []⟩ (.slice none 0 0) (.slice none 0 0) (.slice none 0 0)) (.slice none 0 0) [] (.slice none 0 0) [] s6 from hrd.set HL.out 5 (.int .i64 (a5 : Int)))
      clear hrd HRD5
      go_wp2_with fail
      clear hc25 hf25
      refine (HZ.out.number HL.out HRD6.out Q6.out).mono ?_
      rintro e v6 ⟨rfl, hrd, -⟩
      have hc26 := cell_blk hrd.msg 6
      have hf26 := frozen_blk hrd.msg 6
      simp only [msgC, List.getElem?_toArray, List.getElem?_cons_zero, List.getElem?_cons_succ] at hc26
      have HRD7 := Lib.hid (show RdW w c1 X (r + 1) w.heap.size (c1 ≤ ·) (fun _ => False) (v6.setCell ⟨r + 1, 6, none⟩ (.int .i64 (a6 : Int))) (msgC ⟨a0, a1, a2, a3, a4, a5, a6, 0, false, false, [], [], []⟩ (.slice none 0 0) (.slice none 0 0) (.slice none 0 0)) (.slice none 0 0) [] (.slice none 0 0) [] s7 from hrd.set HL.out 6 (.int .i64 (a6 : Int)))
      clear hrd HRD6
      go_wp2_with fail
      clear hc26 hf26
      refine (HZ.out.number HL.out HRD7.out Q7.out).mono ?_
      rintro e v7 ⟨rfl, hrd, -⟩
      have hc27 := cell_blk hrd.msg 7
      have hf27 := frozen_blk hrd.msg 7
      simp only [msgC, List.getElem?_toArray, List.getElem?_cons_zero, List.getElem?_cons_succ] at hc27
      have HRD8 := Lib.hid (show RdW w c1 X (r + 1) w.heap.size (c1 ≤ ·) (fun _ => False) (v7.setCell ⟨r + 1, 7, none⟩ (.int .i64 (a7 : Int))) (msgC ⟨a0, a1, a2, a3, a4, a5, a6, a7, false, false, [], [], []⟩ (.slice none 0 0) (.slice none 0 0) (.slice none 0 0)) (.slice none 0 0) [] (.slice none 0 0) [] s8 from hrd.set HL.out 7 (.int .i64 (a7 : Int)))
      clear hrd HRD7
      go_wp2_with fail
      clear hc27 hf27
      refine (HZ.out.flag HL.out HRD8.out Q8.out).mono ?_
      rintro e v8 ⟨rfl, hrd, -⟩
      have hc28 := cell_blk hrd.msg 8
      have hf28 := frozen_blk hrd.msg 8
      simp only [msgC, List.getElem?_toArray, List.getElem?_cons_zero, List.getElem?_cons_succ] at hc28
      have HRD9 := Lib.hid (show RdW w c1 X (r + 1) w.heap.size (c1 ≤ ·) (fun _ => False) (v8.setCell ⟨r + 1, 8, none⟩ (.bool y)) (msgC ⟨a0, a1, a2, a3, a4, a5, a6, a7, y, false, [], [], []⟩ (.slice none 0 0) (.slice none 0 0) (.slice none 0 0)) (.slice none 0 0) [] (.slice none 0 0) [] sy from hrd.set HL.out 8 (.bool y))
      clear hrd HRD8
      go_wp2_with fail
      clear hc28 hf28
      refine (HZ.out.flag HL.out HRD9.out Q9.out).mono ?_
      rintro e v9 ⟨rfl, hrd, -⟩
      have hc29 := cell_blk hrd.msg 9
      have hf29 := frozen_blk hrd.msg 9
      simp only [msgC, List.getElem?_toArray, List.getElem?_cons_zero, List.getElem?_cons_succ] at hc29
      have HRD10 := Lib.hid (show RdW w c1 X (r + 1) w.heap.size (c1 ≤ ·) (fun _ => False) (v9.setCell ⟨r + 1, 9, none⟩ (.bool d)) (msgC ⟨a0, a1, a2, a3, a4, a5, a6, a7, y, d, [], [], []⟩ (.slice none 0 0) (.slice none 0 0) (.slice none 0 0)) (.slice none 0 0) [] (.slice none 0 0) [] sd from hrd.set HL.out 9 (.bool d))
      clear hrd HRD9
      go_wp2_with fail
      clear hc29 hf29
      have HCN := Lib.hid (show cn < 9223372036854775808 by have := (ScS.ok_number (HZ.out.ok HRD10.out)).2; rw [Q10.out] at this; exact this)
      refine (HZ.out.number HL.out HRD10.out Q10.out).mono ?_
      rintro e v10 ⟨rfl, hrd, -⟩
      have HRD11 := Lib.hid hrd
      have HBIG := Lib.hid (show r + 2 ≤ c1 by rw [HC1.out, HS3.out]; exact Nat.le_refl _)
      clear hrd HRD10 HRR HC1 HS3
      go_wp2_with fail
      go_loopw [10] (fun i wr => ∃ (k : Nat) (es1 : List EntS) (ve : Value) (s : ScS), i = .int .i64 k ∧ k ≤ 9 ∧ es1.length = k ∧ Hid (RdW w c1 X (r + 1) w.heap.size (c1 ≤ ·) (fun _ => False) wr (msgC ⟨a0, a1, a2, a3, a4, a5, a6, a7, y, d, [], [], []⟩ ve (.slice none 0 0) (.slice none 0 0)) ve es1 (.slice none 0 0) [] s) ∧
        Hid ((es, se) = (es1 ++ (rdEnts false (a4 : Int) cn (9 - k) k s).1, (rdEnts false (a4 : Int) cn (9 - k) k s).2))) (fun i _ => 9 - (intOf i).toNat)
      case atStart => exact ⟨0, [], _, sc, rfl, by omega, rfl, HRD11, Lib.hid (by rw [show 9 - 0 = 9 from rfl, Q11.out]; rfl)⟩
      case round =>
        clear HRD11 Q11
        obtain ⟨k, es1, ve, s, rfl, hk, hel, HRD, HE⟩ := hrel
        obtain ⟨bb, hb⟩ : ∃ bb, bb = decide (k < cn ∧ k < 9) := ⟨_, rfl⟩
        go_upto_region 20 with fail
        refine rg20 k cn hk HCN.out bb hb ?_
        intros
        rename_i wx hrel
        subst hrel
        cases bb
        · have hnc := of_decide_eq_false hb.symm
          have HEN := Lib.hid (show es = es1 ∧ se = s by
            have h := HE.out
            rw [rdEntsR_stop hk hnc, List.append_nil] at h
            injection h with h1 h2
            exact ⟨h1, h2⟩)
          clear HE hnc hb
          obtain ⟨rfl, rfl⟩ := HEN.out
          clear HEN hk hel
          go_wp2_with fail
          have hvb : vn < 9223372036854775808 := by have := (ScS.ok_number (HZ.out.ok HRD.out)).2; rw [Q12.out] at this; exact this
          refine (HZ.out.number HL.out HRD.out Q12.out).mono ?_
          rintro e w12 ⟨rfl, hrd, -⟩
          have hbig := hrd.big
          have HRD3 := Lib.hid hrd.shutE
          obtain ⟨c2, hc2⟩ : ∃ c2, c2 = w12.heap.size := ⟨_, rfl⟩
          rw [← hc2] at HRD3 hbig
          have HL2 := Lib.hid (HL.out.shutE (c := c2) (by have := HBIG.out; have := HRW.out; omega) (by have := HBIG.out; omega) (by have := HBIG.out; have := HRW.out; omega) (fun b hb => by have := HBIG.out; omega))
          have HBIG2 := Lib.hid hbig
          clear hrd HRD hc2 hbig
          go_wp2_with fail
          go_loopw [12] (fun i wr => ∃ (k : Nat) (vs1 : List Int) (vv : Value) (s : ScS), i = .int .i64 k ∧ k ≤ 9 ∧ vs1.length = k ∧ Hid (RdW w c2 X (r + 1) w.heap.size (fun b => c1 ≤ b ∧ b < c2) (c2 ≤ ·) wr (msgC ⟨a0, a1, a2, a3, a4, a5, a6, a7, y, d, [], [], []⟩ ve vv (.slice none 0 0)) ve es vv vs1 s) ∧
            Hid ((vs, svs) = (vs1 ++ (rdNums false vn (9 - k) k s).1, (rdNums false vn (9 - k) k s).2))) (fun i _ => 9 - (intOf i).toNat)
          case atStart => exact ⟨0, [], _, sv, rfl, by omega, rfl, HRD3, Lib.hid (by rw [show 9 - 0 = 9 from rfl, Q13.out]; rfl)⟩
          case round =>
            clear HRD3 Q13
            obtain ⟨k, vs1, vv, s, rfl, hk, hvl, HRD, HE⟩ := hrel
            obtain ⟨bb, hb⟩ : ∃ bb, bb = decide (k < vn ∧ k < 9) := ⟨_, rfl⟩
            go_upto_region 28 with fail
            refine rg28 k vn hk hvb bb hb ?_
            intros
            rename_i wx hrel
            subst hrel
            cases bb
            · have hnc := of_decide_eq_false hb.symm
              have HEN := Lib.hid (show vs = vs1 ∧ svs = s by
                have h := HE.out
                rw [rdNumsR_stop hk hnc, List.append_nil] at h
                injection h with h1 h2
                exact ⟨h1, h2⟩)
              clear HE hnc hb
              obtain ⟨rfl, rfl⟩ := HEN.out
              clear HEN hk hvl
              go_wp2_with fail
              refine (HZ.out.text HL2.out HRD.out Q14.out).mono ?_
              rintro e w15 ⟨rfl, hrd, -⟩
              have hbig2 := hrd.big
              have hconv := conv_bytes (P := Try.prog) (src := 9) (dst := 24) t Try.underlying9 Try.underlying24 Try.underlying5
              have hrd2 := hrd.ext_ HL2.out ((Ext.refl w15).bytes 5 ⟨t.toArray⟩)
              have hc12 : (Lib.bytesWorld w15 5 ⟨t.toArray⟩).cell? ⟨r + 1, 12, none⟩ = some (.slice none 0 0) := cell_blk hrd2.msg 12
              have hf12 : (Lib.bytesWorld w15 5 ⟨t.toArray⟩).frozen? ⟨r + 1, 12, none⟩ = false := frozen_blk hrd2.msg 12
              obtain ⟨Ae, ce, e1, _⟩ := id hrd.ent.rs
              obtain ⟨Av, cv, e2, _⟩ := id hrd.vot.rs
              subst e1
              subst e2
              obtain ⟨vd, hvd⟩ : ∃ vd, vd = (.slice (some ⟨w15.heap.size, 0, none⟩) t.length (grownCap w15 t.length 0 5) : Value) := ⟨_, rfl⟩
              obtain ⟨w8, hw8⟩ : ∃ w8, w8 = (Lib.bytesWorld w15 5 ⟨t.toArray⟩).setCell ⟨r + 1, 12, none⟩ vd := ⟨_, rfl⟩
              have hrd5 := hrd2.set HL2.out 12 vd
              rw [← hw8] at hrd5
              have HRD5 := Lib.hid (show RdW w c2 X (r + 1) w.heap.size (fun b => c1 ≤ b ∧ b < c2) (c2 ≤ ·) w8 (msgC ⟨a0, a1, a2, a3, a4, a5, a6, a7, y, d, [], [], []⟩ (.slice Ae es.length ce) (.slice Av vs.length cv) vd) (.slice Ae es.length ce) es (.slice Av vs.length cv) vs st from hrd5)
              have HD := Lib.hid (show Rs kByte w8 (w15.heap.size ≤ ·) vd t by
                rw [hw8]
                exact (hvd ▸ Rs.bytes w15 5 t (by have := HTL.out; omega) : Rs kByte _ _ vd t).seti (g := r + 1) (i := 12) (by have h1 := HBIG.out; have h2 := HBIG2.out; omega) vd)
              have HMV := Lib.hid (show MsgV w8 (c1 ≤ ·) (.agg (msgC ⟨a0, a1, a2, a3, a4, a5, a6, a7, y, d, es, vs, t⟩ (.slice Ae es.length ce) (.slice Av vs.length cv) vd)) ⟨a0, a1, a2, a3, a4, a5, a6, a7, y, d, es, vs, t⟩ from
                ⟨_, _, _, rfl, HRD5.out.ent.rs.mono (fun b hb => hb.1), HRD5.out.vot.rs.mono (fun b hb => by have : c2 ≤ b := hb; have := HBIG2.out; omega), HD.out.mono (fun b hb => by have : w15.heap.size ≤ b := hb; have := HBIG2.out; omega), by
                  have h := HAB.out
                  simp only [List.mem_cons, List.not_mem_nil, or_false, forall_eq_or_imp, forall_eq] at h
                  obtain ⟨h0, h1, h2, h3, h4, h5, h6, h7⟩ := h
                  refine ⟨⟨?_, ?_⟩, ⟨?_, ?_⟩, ⟨?_, ?_⟩, ⟨?_, ?_⟩, ⟨?_, ?_⟩, ⟨?_, ?_⟩, ⟨?_, ?_⟩, ⟨?_, ?_⟩⟩ <;> (simp only; omega)⟩)
              have HRC := Lib.hid (show Rc w8 r (fun x => w.heap.size + 1 ≤ x ∧ x < r) st by have h := HRD5.out.sc; rw [HXD.out] at h; exact h)
              have HMB := Lib.hid HRD5.out.msg
              have HRB := Lib.hid HRD5.out.res
              have HX8 := Lib.hid HRD5.out.ext
              go_upto_region 32 with fail
              rw [← hvd, ← hw8]
              have HVD := Lib.hid hvd
              clear hrd hrd2 hrd5 HRD HD hw8 hc12 hf12 hconv hvd hbig2
              have HLD := Lib.hid HVD
              obtain ⟨Ad, nd, cd, hvd2⟩ : ∃ A x m, vd = .slice A x m := ⟨_, _, _, HVD.out⟩
              clear HVD HLD
              subst hvd2
              obtain ⟨⟨x0, x1, x2, x3, x4, x5, x6, x7, x8, x9, x10, x11, x12⟩, -⟩ := msg_cells HMB.out
              simp only at x0 x1 x2 x3 x4 x5 x6 x7 x8 x9
              go_wp2_with fail
              refine (RPut_calls _ _ _ _ HMV.out).mono ?_
              rintro e w9 ⟨u, rfl, ho, hx⟩
              obtain ⟨Au, cu, eu, _⟩ := id ho.rs
              subst eu
              obtain ⟨vr, hrb, -, -, -⟩ := HRC.out
              have hr2 := cell_blk (blk_ext hrb hx) 2
              simp only [List.getElem?_toArray, List.getElem?_cons_zero, List.getElem?_cons_succ] at hr2
              have HRB9 := Lib.hid (blk_ext HRB.out hx)
              have hmb9 := blk_ext HMB.out hx
              have HX9 := Lib.hid (HX8.out.trans hx)
              have HMV9 := Lib.hid (HMV.out.ext hx)
              have hcvX : (convert 24 9 (.slice Au (putM ⟨a0, a1, a2, a3, a4, a5, a6, a7, y, d, es, vs, t⟩).1.length cu)).run Try.prog w9 = .ok (.string ⟨(putM ⟨a0, a1, a2, a3, a4, a5, a6, a7, y, d, es, vs, t⟩).1.toArray⟩) w9 := ho.rs.to_string Try.underlying24 tByte tString
              have hcvB : (convert 24 9 (.slice A b.length c)).run Try.prog w9 = .ok (.string ⟨b.toArray⟩) w9 := (HR.out.ext HX9.out).to_string Try.underlying24 tByte tString
              have HGR := Lib.hid (show getR b = if (decide (st.e = 0) && (decide ((putM ⟨a0, a1, a2, a3, a4, a5, a6, a7, y, d, es, vs, t⟩).2 = 0) && decide ((putM ⟨a0, a1, a2, a3, a4, a5, a6, a7, y, d, es, vs, t⟩).1 = b))) = true then (⟨a0, a1, a2, a3, a4, a5, a6, a7, y, d, es, vs, t⟩, 0) else (zeroM, 122) by rw [HG0.out, HQ.out]; rfl)
              clear x0 x1 x2 x3 x4 x5 x6 x7 x8 x9 x10 x11 x12 ho hx hrb HRC HMB HRB HX8 HMV HRD5
              obtain ⟨⟨x0, x1, x2, x3, x4, x5, x6, x7, x8, x9, x10, x11, x12⟩, ⟨y0, y1, y2, y3, y4, y5, y6, y7, y8, y9, y10, y11, y12⟩⟩ := msg_cells HRB9.out
              simp only [zeroM] at x0 x1 x2 x3 x4 x5 x6 x7 x8 x9
              obtain ⟨⟨z0, z1, z2, z3, z4, z5, z6, z7, z8, z9, z10, z11, z12⟩, -⟩ := msg_cells hmb9
              simp only at z0 z1 z2 z3 z4 z5 z6 z7 z8 z9
              clear hmb9
              generalize (putM ⟨a0, a1, a2, a3, a4, a5, a6, a7, y, d, es, vs, t⟩).1 = pl at hcvX HGR ⊢
              generalize (putM ⟨a0, a1, a2, a3, a4, a5, a6, a7, y, d, es, vs, t⟩).2 = pe at HGR ⊢
              by_cases g1 : st.e = 0
              · by_cases g2 : pe = 0
                · by_cases g3 : pl = b
                  · have HG := Lib.hid (show getR b = (⟨a0, a1, a2, a3, a4, a5, a6, a7, y, d, es, vs, t⟩, 0) by rw [HGR.out, decide_eq_true g1, decide_eq_true g2, decide_eq_true g3]; rfl)
                    have HSM := Lib.hid (setM_heap w9 w.heap.size ⟨a0, a1, a2, a3, a4, a5, a6, a7, y, d, es, vs, t⟩ (.slice Ae es.length ce) (.slice Av vs.length cv) (.slice Ad nd cd) HRB9.out)
                    have HXM := Lib.hid ((setM_upd w9 w.heap.size ⟨a0, a1, a2, a3, a4, a5, a6, a7, y, d, es, vs, t⟩ (.slice Ae es.length ce) (.slice Av vs.length cv) (.slice Ad nd cd)).ext HX9.out (fun k hk => by have : k = w.heap.size := hk; omega))
                    have hse : ((st.e : Int) != 0) = false := by rw [g1]; rfl
                    have hpe : ((pe : Int) != 0) = false := by rw [g2]; rfl
                    have hbe : (pl != b) = false := by rw [g3]; simp
                    have hbe2 : (pl == b) = true := by rw [g3]; simp
                    clear g1 g2 g3
                    go_wp2_with fail
                    (try simp only [Exit.inBlock, Exit.then])
                    refine bodyPost_ret (results_msg rfl _ _ _ _ _ _ _ _ _ rfl HSM.out) rfl ?_
                    rw [HG.out]
                    refine ⟨_, rfl, (HMV9.out.keep fun k hk hl => ?_).mono fun k hk => by have h1 := HBIG.out; have h2 := HRW.out; have h3 : c1 ≤ k := hk; omega, HXM.out⟩
                    exact (setM_upd w9 w.heap.size ⟨a0, a1, a2, a3, a4, a5, a6, a7, y, d, es, vs, t⟩ (.slice Ae es.length ce) (.slice Av vs.length cv) (.slice Ad nd cd)).block k hl (fun e => by have e' : k = w.heap.size := e; have h1 := HBIG.out; have h2 := HRW.out; have h' : c1 ≤ k := hk; omega)
                  · have HG := Lib.hid (show getR b = (zeroM, 122) by rw [HGR.out, decide_eq_false g3, Bool.and_false, Bool.and_false]; rfl)
                    have HSM := Lib.hid (setM_heap w9 w.heap.size zeroM (.slice none 0 0) (.slice none 0 0) (.slice none 0 0) HRB9.out)
                    have HXM := Lib.hid ((setM_upd w9 w.heap.size zeroM (.slice none 0 0) (.slice none 0 0) (.slice none 0 0)).ext HX9.out (fun k hk => by have : k = w.heap.size := hk; omega))
                    have hse : ((st.e : Int) != 0) = false := by rw [g1]; rfl
                    have hpe : ((pe : Int) != 0) = false := by rw [g2]; rfl
                    have hbe : (pl != b) = true := bne_iff_ne.2 g3
                    have hbe2 : (pl == b) = false := beq_eq_false_iff_ne.2 g3
                    clear g1 g2 g3
                    go_wp2_with fail
                    (try simp only [Exit.inBlock, Exit.then])
                    refine bodyPost_ret (results_msg rfl _ _ _ _ _ _ _ _ _ rfl HSM.out) rfl ?_
                    rw [HG.out]
                    exact ⟨_, rfl, zero_V _ _, HXM.out⟩
                · have HG := Lib.hid (show getR b = (zeroM, 122) by rw [HGR.out, decide_eq_false g2, Bool.false_and, Bool.and_false]; rfl)
                  have HSM := Lib.hid (setM_heap w9 w.heap.size zeroM (.slice none 0 0) (.slice none 0 0) (.slice none 0 0) HRB9.out)
                  have HXM := Lib.hid ((setM_upd w9 w.heap.size zeroM (.slice none 0 0) (.slice none 0 0) (.slice none 0 0)).ext HX9.out (fun k hk => by have : k = w.heap.size := hk; omega))
                  have hse : ((st.e : Int) != 0) = false := by rw [g1]; rfl
                  have hpe : ((pe : Int) != 0) = true := bne_iff_ne.2 (by omega)
                  clear g1 g2
                  go_wp2_with fail
                  (try simp only [Exit.inBlock, Exit.then])
                  refine bodyPost_ret (results_msg rfl _ _ _ _ _ _ _ _ _ rfl HSM.out) rfl ?_
                  rw [HG.out]
                  exact ⟨_, rfl, zero_V _ _, HXM.out⟩
              · have HG := Lib.hid (show getR b = (zeroM, 122) by rw [HGR.out, decide_eq_false g1, Bool.false_and]; rfl)
                have HSM := Lib.hid (setM_heap w9 w.heap.size zeroM (.slice none 0 0) (.slice none 0 0) (.slice none 0 0) HRB9.out)
                have HXM := Lib.hid ((setM_upd w9 w.heap.size zeroM (.slice none 0 0) (.slice none 0 0) (.slice none 0 0)).ext HX9.out (fun k hk => by have : k = w.heap.size := hk; omega))
                have hse : ((st.e : Int) != 0) = true := bne_iff_ne.2 (by omega)
                clear g1
                go_wp2_with fail
                (try simp only [Exit.inBlock, Exit.then])
                refine bodyPost_ret (results_msg rfl _ _ _ _ _ _ _ _ _ rfl HSM.out) rfl ?_
                rw [HG.out]
                exact ⟨_, rfl, zero_V _ _, HXM.out⟩
            · have hyes := of_decide_eq_true hb.symm
              obtain ⟨n, s1e, q1⟩ := asPair s.number
              have HEN := Lib.hid (show (vs, svs) = ((vs1 ++ [(n : Int)]) ++ (rdNums false vn (9 - (k + 1)) (k + 1) s1e).1, (rdNums false vn (9 - (k + 1)) (k + 1) s1e).2) by
                rw [HE.out, rdNumsR_more hyes q1]
                simp only [List.append_assoc, List.singleton_append])
              have hnb : n < 9223372036854775808 := by have := (ScS.ok_number (HZ.out.ok HRD.out)).2; rw [q1] at this; exact this
              have hk9 : k < 9 := hyes.2
              clear HE hyes hb
              go_upto_region 30 with fail
              refine rg30 w X _ (r + 1) w.heap.size r c2 (fun b => c1 ≤ b ∧ b < c2) HL2 HZ a0 a1 a2 a3 a4 a5 a6 a7 y d ve vv es vs1 n (by omega) hnb s s1e q1 HRD ?_
              intros
              rename_i wz hrel
              have HRD3 := hrel
              clear hrel HRD
              go_wp2_with fail
              go_roundw
              case rel => exact ⟨k + 1, _, _, _, by go_num, by omega, by rw [List.length_append, List.length_singleton, hvl], HRD3, HEN⟩
              case measure => simp [intOf]; omega
        · have hyes := of_decide_eq_true hb.symm
          obtain ⟨n, s1e, q1⟩ := asPair s.number
          obtain ⟨t1, s2e, q2⟩ := asPair (s1e.text 4096)
          have HEN := Lib.hid (show (es, se) = ((es1 ++ [⟨entIx (a4 : Int) k, (n : Int), t1⟩]) ++ (rdEnts false (a4 : Int) cn (9 - (k + 1)) (k + 1) s2e).1, (rdEnts false (a4 : Int) cn (9 - (k + 1)) (k + 1) s2e).2) by
            rw [HE.out, rdEntsR_more hyes q1 q2]
            simp only [List.append_assoc, List.singleton_append])
          have hnb : n < 9223372036854775808 := by have := (ScS.ok_number (HZ.out.ok HRD.out)).2; rw [q1] at this; exact this
          have HT1 := Lib.hid (show t1.length ≤ 4096 by have := text_len s1e 4096; rw [q2] at this; simpa using this)
          have HQ1 := Lib.hid q1
          have HQ2 := Lib.hid q2
          have hk9 : k < 9 := hyes.2
          have hci : wx.cell? ⟨r + 1, 4, none⟩ = some (.int .i64 (a4 : Int)) := cell_blk HRD.out.msg 4
          have hx1 : IntKind.i64.wrap ((a4 : Int) + 1) = wrap64 ((a4 : Int) + 1) := wrap_eq64 _
          have hx2 : IntKind.i64.wrap (wrap64 ((a4 : Int) + 1) + (k : Int)) = entIx (a4 : Int) k := wrap_eq64 _
          clear q1 q2 hyes hb HE
          go_upto_region 23 with fail
          obtain ⟨ge, hge⟩ : ∃ ge, ge = wx.heap.size := ⟨_, rfl⟩
          obtain ⟨wa, hwa⟩ : ∃ wa, wa = wx.alloc (.cells #[.int .i64 (entIx (a4 : Int) k), .int .i64 0, .slice none 0 0] 71) := ⟨_, rfl⟩
          have HB1 := Lib.hid (show wa.heap[ge]? = some (.cells #[.int .i64 (entIx (a4 : Int) k), .int .i64 0, .slice none 0 0] 71 (0, 0)) by rw [hwa, hge]; exact heap_new _ _ rfl _)
          have HLc := Lib.hid (HL.out.sub (SE' := fun b => c1 ≤ b ∧ b < ge) (fun b hb => hb.1))
          have HRa := Lib.hid (show RdW w c1 X (r + 1) w.heap.size (fun b => c1 ≤ b ∧ b < ge) (fun _ => False) wa (msgC ⟨a0, a1, a2, a3, a4, a5, a6, a7, y, d, [], [], []⟩ ve (.slice none 0 0) (.slice none 0 0)) ve es1 (.slice none 0 0) [] s by
            rw [hwa]
            have h := HRD.out.cut
            rw [← hge] at h
            exact h.ext_ HLc.out ((Ext.refl wx).alloc _))
          have HGB := Lib.hid (show c1 ≤ ge by rw [hge]; exact HRD.out.big)
          rw [← hwa, ← hge]
          clear hwa hge hci hx1 hx2 HRD
          go_wp2_with fail
          refine (HZ.out.number HLc.out HRa.out HQ1.out).mono ?_
          rintro e w4 ⟨rfl, hrd, hu⟩
          have hb4 := blk_upd HB1.out hu (by have h1 := HGB.out; have h2 := HBIG.out; omega)
          have hc41 := cell_blk hb4 1
          have hf41 := frozen_blk hb4 1
          simp only [List.getElem?_toArray, List.getElem?_cons_zero, List.getElem?_cons_succ] at hc41
          have HB5 := Lib.hid (show (w4.setCell ⟨ge, 1, none⟩ (.int .i64 (n : Int))).heap[ge]? = some (.cells #[.int .i64 (entIx (a4 : Int) k), .int .i64 (n : Int), .slice none 0 0] 71 (0, 0)) from heap_setCell_same w4 ge 1 _ _ _ hb4)
          have HR5 := Lib.hid (show RdW w c1 X (r + 1) w.heap.size (fun b => c1 ≤ b ∧ b < ge) (fun _ => False) (w4.setCell ⟨ge, 1, none⟩ (.int .i64 (n : Int))) (msgC ⟨a0, a1, a2, a3, a4, a5, a6, a7, y, d, [], [], []⟩ ve (.slice none 0 0) (.slice none 0 0)) ve es1 (.slice none 0 0) [] s1e from hrd.setX HLc.out (g := ge) (by have h1 := HGB.out; have h2 := HBIG.out; have h3 := HRW.out; omega) (by have h1 := HGB.out; have h2 := HBIG.out; omega) (by have h1 := HGB.out; have h2 := HBIG.out; have h3 := HRW.out; omega) (by have h1 := HGB.out; have h2 := HBIG.out; omega) (by omega) (fun h => h) 1 _)
          clear hrd hu hb4 HB1 HRa
          go_wp2_with fail
          clear hc41 hf41
          refine (HZ.out.text HLc.out HR5.out HQ2.out).mono ?_
          rintro e w6 ⟨rfl, hrd, hu⟩
          have hb6 := blk_upd HB5.out hu (by have h1 := HGB.out; have h2 := HBIG.out; omega)
          have hb6b := blk_ext hb6 ((Ext.refl w6).bytes 5 ⟨t1.toArray⟩)
          have hc62 := cell_blk hb6b 2
          have hf62 := frozen_blk hb6b 2
          simp only [List.getElem?_toArray, List.getElem?_cons_zero, List.getElem?_cons_succ] at hc62
          have hconv := conv_bytes (P := Try.prog) (src := 9) (dst := 24) t1 Try.underlying9 Try.underlying24 Try.underlying5
          have hrd2 := hrd.ext_ HLc.out ((Ext.refl w6).bytes 5 ⟨t1.toArray⟩)
          obtain ⟨vd, hvd⟩ : ∃ vd, vd = ((.slice (some ⟨w6.heap.size, 0, none⟩) t1.length (grownCap w6 t1.length 0 5)) : Value) := ⟨_, rfl⟩
          obtain ⟨w7, hw7⟩ : ∃ w7, w7 = (Lib.bytesWorld w6 5 ⟨t1.toArray⟩).setCell ⟨ge, 2, none⟩ vd := ⟨_, rfl⟩
          have HB7 := Lib.hid (show w7.heap[ge]? = some (.cells #[.int .i64 (entIx (a4 : Int) k), .int .i64 (n : Int), vd] 71 (0, 0)) by rw [hw7]; exact heap_setCell_same _ ge 2 _ _ _ hb6b)
          have HR7 := Lib.hid (show RdW w c1 X (r + 1) w.heap.size (c1 ≤ ·) (fun _ => False) w7 (msgC ⟨a0, a1, a2, a3, a4, a5, a6, a7, y, d, [], [], []⟩ ve (.slice none 0 0) (.slice none 0 0)) ve es1 (.slice none 0 0) [] s2e by rw [hw7]; exact (hrd2.setX HLc.out (g := ge) (by have h1 := HGB.out; have h2 := HBIG.out; have h3 := HRW.out; omega) (by have h1 := HGB.out; have h2 := HBIG.out; omega) (by have h1 := HGB.out; have h2 := HBIG.out; have h3 := HRW.out; omega) (by have h1 := HGB.out; have h2 := HBIG.out; omega) (by omega) (fun h => h) 2 _).mono (fun b hb => hb.1))
          have HD7 := Lib.hid (show Rs kByte w7 (w6.heap.size ≤ ·) vd t1 by
            rw [hw7]
            exact (hvd ▸ Rs.bytes w6 5 t1 (by have := HT1.out; omega) : Rs kByte _ _ vd t1).seti (g := ge) (i := 2) (by have := blk_lt hb6; omega) vd)
          have HG6 := Lib.hid (show ge < w6.heap.size from blk_lt hb6)
          have HG7 := Lib.hid (show w6.heap.size ≤ w7.heap.size by rw [hw7]; have h := ((Ext.refl w6).bytes 5 ⟨t1.toArray⟩).le; simpa [World.setCell] using h)
          have HOB := Lib.hid (show ∀ q, ve.ownBlock = some q → q < ge from fun q hq => (hrd.ent.1 q hq).2)
          have HIX := Lib.hid (entIx_I64 (a4 : Int) k)
          go_upto_region 25 with fail
          rw [← hvd, ← hw7]
          clear hrd hu hb6 hb6b hc62 hf62 hconv hrd2 hw7 HB5 HR5
          obtain ⟨Av, nv, cv, hve⟩ : ∃ A x m, ve = .slice A x m := by obtain ⟨A, c, e, _⟩ := id HR7.out.ent.rs; exact ⟨_, _, _, e⟩
          have HV2 := Lib.hid hvd
          obtain ⟨Ad, nd, cd, hvd2⟩ : ∃ A x m, vd = .slice A x m := ⟨_, _, _, hvd⟩
          clear hvd
          subst hvd2
          subst hve
          have hp10 := cell_blk HR7.out.msg 10
          have hpf10 := frozen_blk HR7.out.msg 10
          simp only [msgC, List.getElem?_toArray, List.getElem?_cons_zero, List.getElem?_cons_succ] at hp10
          have hg0 := cell_blk HB7.out 0
          have hg1 := cell_blk HB7.out 1
          have hg2 := cell_blk HB7.out 2
          simp only [List.getElem?_toArray, List.getElem?_cons_zero, List.getElem?_cons_succ] at hg0 hg1 hg2
          go_wp2_with (at_builtin; refine list_app_ent 88 90 rfl rfl (c1 := c1) (entIx (a4 : Int) k) (n : Int) _ t1 (w6.heap.size ≤ ·) HIX.out ?cn ?cl ?ct ?cw HD7.out HL.out HR7.out rfl rfl ?_)
          case cn => unfold I64; omega
          case cl => omega
          case ct => intro q hq; exact ⟨by have h1 := HGB.out; have h2 := HG6.out; have h3 : w6.heap.size ≤ q := hq; omega, fun e => by have h1 := HOB.out q e.symm; have h2 := HG6.out; have h3 : w6.heap.size ≤ q := hq; omega⟩
          case cw => exact HG7.out
          intro v8 w8 hrd8
          obtain ⟨A8, n8, c8, rfl⟩ : ∃ A x m, v8 = .slice A x m := by obtain ⟨A, c, e, _⟩ := id hrd8.ent.rs; exact ⟨_, _, _, e⟩
          have hq10 := cell_blk hrd8.msg 10
          have hqf10 := frozen_blk hrd8.msg 10
          simp only [msgC, List.getElem?_toArray, List.getElem?_cons_zero, List.getElem?_cons_succ] at hq10
          have HR9 := Lib.hid (show RdW w c1 X (r + 1) w.heap.size (c1 ≤ ·) (fun _ => False) (w8.setCell ⟨r + 1, 10, none⟩ (.slice A8 n8 c8)) (msgC ⟨a0, a1, a2, a3, a4, a5, a6, a7, y, d, [], [], []⟩ (.slice A8 n8 c8) (.slice none 0 0) (.slice none 0 0)) (.slice A8 n8 c8) (es1 ++ [⟨entIx (a4 : Int) k, (n : Int), t1⟩]) (.slice none 0 0) [] s2e from hrd8.set HL.out 10 (.slice A8 n8 c8))
          clear hrd8 hp10 hpf10 hg0 hg1 hg2 HB7 HR7 HD7
          go_wp2_with fail
          go_roundw
          case rel => exact ⟨k + 1, _, _, _, by go_num, by omega, by rw [List.length_append, List.length_singleton, hel], HR9, HEN⟩
          case measure => simp [intOf]; omega
end Go.Proofs.Ytfflcnlgkbgbhaa
