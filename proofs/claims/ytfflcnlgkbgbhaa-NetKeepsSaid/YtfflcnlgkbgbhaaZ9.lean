/-
  Texts of this claim, put together: MsgRwP.
-/
import Derived.Test.YtfflcnlgkbgbhaaZ8
import Derived.Test.YtfflcnlgkbgbhaaZ3
set_option linter.unusedVariables false
set_option linter.unusedSimpArgs false
namespace Go.Proofs.Ytfflcnlgkbgbhaa
open Go.RowKit

theorem entIx_I64 (x : Int) (k : Nat) : I64 (entIx x k) := by unfold entIx I64; generalize wrap64 (x + 1) + (k : Int) = z; unfold wrap64; omega
theorem wrap_eq64 (x : Int) : IntKind.i64.wrap x = wrap64 x := by rw [IntKind.wrap_i64]; unfold wrap64; omega

set_option maxRecDepth 1000000 in
set_option maxHeartbeats 4000000 in
theorem rw11 {K : Act → World → Prop} {Q : Exit → Act → World → Prop} {w : World} {c0 c1 c2 c3 c4 c6 c7 c10 c11 c12 c13 c14 c15 c16 c17 c18 c19 c20 c21 c22 c23 c24 c25 c26 c27 c28 c29 c30 c31 c32 c33 c34 c35 c36 c37 c38 c39 c40 c41 c42 c43 c44 c45 c46 c47 c48 c49 c50 c51 c52 c53 c54 c55 c56 c57 c58 c59 c60 c61 c62 c63 c64 c65 c66 c67 c68 c69 c70 c71 c72 c73 c74 c75 c76 c77 c78 c79 c80 c81 c82 c83 c84 c85 c86 c87 c88 c89 c90 c91 c92 c93 c94 c95 c96 c97 c98 c99 c100 c101 c102 c103 c104 c105 c106 c107 : Value} (w0 : World) (X : World → ScS → Prop) (C : Nat → Prop) (pm rr cb p q cc : Nat) (SE SV : Nat → Prop) (L : Hid (Lay w0 C X pm rr SE SV)) (Z : Hid (ScnP X C p q)) (cs : Array Value) (ve vv : Value) (es : List EntS) (vs : List Int) (s : ScS) (k c : Nat) (hk : k ≤ 9) (hc : c < 9223372036854775808) (b : Bool) (hb : b = decide (k < c ∧ k ≤ 8 ∧ s.e = 0)) (h : Hid (RdW w0 cb X pm rr SE SV w cs ve es vv vs s))
    (hK : ∀ (u33 u34 u35 u36 u37 u38 u39 u40 u41 u42 u43 : Value) (wx : World), Hid (RdW w0 cb X pm rr SE SV wx cs ve es vv vs s) → K ⟨#[c0, c1, c2, c3, c4, .pointer (some ⟨p, 0, none⟩), c6, c7, .int .i64 (c : Int), .int .i64 (k : Int), c10, c11, c12, c13, c14, c15, c16, c17, c18, c19, c20, c21, c22, c23, c24, c25, c26, c27, c28, c29, c30, c31, c32, u33, u34, u35, u36, u37, u38, u39, u40, u41, u42, u43, .bool b, c45, c46, c47, c48, c49, c50, c51, c52, c53, c54, c55, c56, c57, c58, c59, c60, c61, c62, c63, c64, c65, c66, c67, c68, c69, c70, c71, c72, c73, c74, c75, c76, c77, c78, c79, c80, c81, c82, c83, c84, c85, c86, c87, c88, c89, c90, c91, c92, c93, c94, c95, c96, c97, c98, c99, c100, c101, c102, c103, c104, c105, c106, c107], []⟩ wx) :
    Code.wp Try.prog ((Try.f55.body.bind (regionAt 11)).getD .skip) (Exit.then K Q) ⟨#[c0, c1, c2, c3, c4, .pointer (some ⟨p, 0, none⟩), c6, c7, .int .i64 (c : Int), .int .i64 (k : Int), c10, c11, c12, c13, c14, c15, c16, c17, c18, c19, c20, c21, c22, c23, c24, c25, c26, c27, c28, c29, c30, c31, c32, c33, c34, c35, c36, c37, c38, c39, c40, c41, c42, c43, c44, c45, c46, c47, c48, c49, c50, c51, c52, c53, c54, c55, c56, c57, c58, c59, c60, c61, c62, c63, c64, c65, c66, c67, c68, c69, c70, c71, c72, c73, c74, c75, c76, c77, c78, c79, c80, c81, c82, c83, c84, c85, c86, c87, c88, c89, c90, c91, c92, c93, c94, c95, c96, c97, c98, c99, c100, c101, c102, c103, c104, c105, c106, c107], []⟩ w := by
  conv => arg 2; whnf
  have hK2 := Lib.hid @hK
  clear hK
  by_cases h1 : k < c
  · by_cases h2 : k ≤ 8
    · have HERR := Lib.hid (fun (j : Nat) => show Calls Try.prog 78 #[.pointer (some ⟨p, 0, none⟩)] (w.drewN j) (fun e w' => e = .returned (.int .i64 (s.e : Int)) ∧ w' = w.drewN j) from
        (Z.out.err (h.out.ext_ L.out ((Ext.refl w).drewN j))).mono fun _ _ ⟨h1, h2⟩ => ⟨h1, h2.symm⟩)
      have hki : (k : Int) < (c : Int) := by omega
      by_cases h3 : s.e = 0
      · have hbt : b = true := by rw [hb]; exact decide_eq_true ⟨h1, h2, h3⟩
        have hse : ((s.e : Int) == 0) = true := beq_iff_eq.2 (by omega)
        subst hbt
        clear hb h1 h3
        go_wp2_with (go_at_call 78; refine (HERR.out 0).mono ?_; rintro e w' ⟨rfl, rfl⟩)
        exact hK2.out _ _ _ _ _ _ _ _ _ _ _ _  h
      · have hbt : b = false := by rw [hb]; exact decide_eq_false (fun h => h3 h.2.2)
        have hse : ((s.e : Int) == 0) = false := beq_eq_false_iff_ne.2 (by omega)
        subst hbt
        clear hb h1 h3
        go_wp2_with (go_at_call 78; refine (HERR.out 0).mono ?_; rintro e w' ⟨rfl, rfl⟩)
        exact hK2.out _ _ _ _ _ _ _ _ _ _ _ _  h
    · have hbt : b = false := by rw [hb]; exact decide_eq_false (fun h => h2 h.2.1)
      have hki : (k : Int) < (c : Int) := by omega
      subst hbt
      clear hb h1
      go_wp2_with fail
      exact hK2.out _ _ _ _ _ _ _ _ _ _ _ _  h
  · have hbt : b = false := by rw [hb]; exact decide_eq_false (fun h => h1 h.1)
    subst hbt
    clear hb
    go_wp2_with fail
    exact hK2.out _ _ _ _ _ _ _ _ _ _ _ _  h

set_option maxRecDepth 1000000 in
set_option maxHeartbeats 4000000 in
theorem rw16 {K : Act → World → Prop} {Q : Exit → Act → World → Prop} {w : World} {c0 c1 c2 c3 c4 c6 c7 c8 c9 c12 c13 c14 c15 c16 c17 c18 c19 c20 c21 c22 c23 c24 c25 c26 c27 c28 c29 c30 c31 c32 c33 c34 c35 c36 c37 c38 c39 c40 c41 c42 c43 c44 c45 c46 c47 c48 c49 c50 c51 c52 c53 c54 c55 c56 c57 c58 c59 c60 c61 c62 c63 c64 c65 c66 c67 c68 c69 c70 c71 c72 c73 c74 c75 c76 c77 c78 c79 c80 c81 c82 c83 c84 c85 c86 c87 c88 c89 c90 c91 c92 c93 c94 c95 c96 c97 c98 c99 c100 c101 c102 c103 c104 c105 c106 c107 : Value} (w0 : World) (X : World → ScS → Prop) (C : Nat → Prop) (pm rr cb p q cc : Nat) (SE SV : Nat → Prop) (L : Hid (Lay w0 C X pm rr SE SV)) (Z : Hid (ScnP X C p q)) (cs : Array Value) (ve vv : Value) (es : List EntS) (vs : List Int) (s : ScS) (k c : Nat) (hk : k ≤ 8) (hc : c < 9223372036854775808) (b : Bool) (hb : b = decide (k < c ∧ k ≤ 7 ∧ s.e = 0)) (h : Hid (RdW w0 cb X pm rr SE SV w cs ve es vv vs s))
    (hK : ∀ (u65 u66 u67 u68 u69 u70 u71 u72 u73 u74 u75 : Value) (wx : World), Hid (RdW w0 cb X pm rr SE SV wx cs ve es vv vs s) → K ⟨#[c0, c1, c2, c3, c4, .pointer (some ⟨p, 0, none⟩), c6, c7, c8, c9, .int .i64 (c : Int), .int .i64 (k : Int), c12, c13, c14, c15, c16, c17, c18, c19, c20, c21, c22, c23, c24, c25, c26, c27, c28, c29, c30, c31, c32, c33, c34, c35, c36, c37, c38, c39, c40, c41, c42, c43, c44, c45, c46, c47, c48, c49, c50, c51, c52, c53, c54, c55, c56, c57, c58, c59, c60, c61, c62, c63, c64, u65, u66, u67, u68, u69, u70, u71, u72, u73, u74, u75, .bool b, c77, c78, c79, c80, c81, c82, c83, c84, c85, c86, c87, c88, c89, c90, c91, c92, c93, c94, c95, c96, c97, c98, c99, c100, c101, c102, c103, c104, c105, c106, c107], []⟩ wx) :
    Code.wp Try.prog ((Try.f55.body.bind (regionAt 16)).getD .skip) (Exit.then K Q) ⟨#[c0, c1, c2, c3, c4, .pointer (some ⟨p, 0, none⟩), c6, c7, c8, c9, .int .i64 (c : Int), .int .i64 (k : Int), c12, c13, c14, c15, c16, c17, c18, c19, c20, c21, c22, c23, c24, c25, c26, c27, c28, c29, c30, c31, c32, c33, c34, c35, c36, c37, c38, c39, c40, c41, c42, c43, c44, c45, c46, c47, c48, c49, c50, c51, c52, c53, c54, c55, c56, c57, c58, c59, c60, c61, c62, c63, c64, c65, c66, c67, c68, c69, c70, c71, c72, c73, c74, c75, c76, c77, c78, c79, c80, c81, c82, c83, c84, c85, c86, c87, c88, c89, c90, c91, c92, c93, c94, c95, c96, c97, c98, c99, c100, c101, c102, c103, c104, c105, c106, c107], []⟩ w := by
  conv => arg 2; whnf
  have hK2 := Lib.hid @hK
  clear hK
  by_cases h1 : k < c
  · by_cases h2 : k ≤ 7
    · have HERR := Lib.hid (fun (j : Nat) => show Calls Try.prog 78 #[.pointer (some ⟨p, 0, none⟩)] (w.drewN j) (fun e w' => e = .returned (.int .i64 (s.e : Int)) ∧ w' = w.drewN j) from
        (Z.out.err (h.out.ext_ L.out ((Ext.refl w).drewN j))).mono fun _ _ ⟨h1, h2⟩ => ⟨h1, h2.symm⟩)
      have hki : (k : Int) < (c : Int) := by omega
      by_cases h3 : s.e = 0
      · have hbt : b = true := by rw [hb]; exact decide_eq_true ⟨h1, h2, h3⟩
        have hse : ((s.e : Int) == 0) = true := beq_iff_eq.2 (by omega)
        subst hbt
        clear hb h1 h3
        go_wp2_with (go_at_call 78; refine (HERR.out 0).mono ?_; rintro e w' ⟨rfl, rfl⟩)
        exact hK2.out _ _ _ _ _ _ _ _ _ _ _ _  h
      · have hbt : b = false := by rw [hb]; exact decide_eq_false (fun h => h3 h.2.2)
        have hse : ((s.e : Int) == 0) = false := beq_eq_false_iff_ne.2 (by omega)
        subst hbt
        clear hb h1 h3
        go_wp2_with (go_at_call 78; refine (HERR.out 0).mono ?_; rintro e w' ⟨rfl, rfl⟩)
        exact hK2.out _ _ _ _ _ _ _ _ _ _ _ _  h
    · have hbt : b = false := by rw [hb]; exact decide_eq_false (fun h => h2 h.2.1)
      have hki : (k : Int) < (c : Int) := by omega
      subst hbt
      clear hb h1
      go_wp2_with fail
      exact hK2.out _ _ _ _ _ _ _ _ _ _ _ _  h
  · have hbt : b = false := by rw [hb]; exact decide_eq_false (fun h => h1 h.1)
    subst hbt
    clear hb
    go_wp2_with fail
    exact hK2.out _ _ _ _ _ _ _ _ _ _ _ _  h

set_option maxRecDepth 1000000 in
set_option maxHeartbeats 4000000 in
theorem rw13 {Q : Exit → Act → World → Prop} {w : World} {c0 c1 c2 c3 c6 c7 c8 c10 c11 c12 c13 c14 c15 c16 c17 c18 c19 c20 c21 c22 c23 c24 c25 c26 c27 c28 c29 c30 c31 c32 c33 c34 c35 c36 c37 c38 c39 c40 c41 c42 c43 c44 c45 c46 c47 c48 c49 c50 c51 c52 c53 c54 c55 c56 c57 c58 c59 c60 c61 c62 c63 c64 c65 c66 c67 c68 c69 c70 c71 c72 c73 c74 c75 c76 c77 c78 c79 c80 c81 c82 c83 c84 c85 c86 c87 c88 c89 c90 c91 c92 c93 c94 c95 c96 c97 c98 c99 c100 c101 c102 c103 c104 c105 c106 c107 : Value} (w0 : World) (X : World → ScS → Prop) (C : Nat → Prop) (pm rr cb p q cc : Nat) (SE SV : Nat → Prop) (L : Hid (Lay w0 C X pm rr (cc ≤ ·) SV)) (Z : Hid (ScnP X C p q)) (a0 a1 a2 a3 a4 a5 a6 a7 : Nat) (y d : Bool) (ve : Value) (es : List EntS) (k n : Nat) (hk : k ≤ 8) (hes : es.length = k) (hn : n < 9223372036854775808) (t : List UInt8) (s s1 s2 : ScS) (q1 : s.number = (n, s1)) (q2 : s1.text 4096 = (t, s2)) (ht : t.length ≤ 140737488355328) (h : Hid (RdW w0 cc X pm rr (cc ≤ ·) SV w (msgC ⟨a0, a1, a2, a3, a4, a5, a6, a7, y, d, [], [], []⟩ ve (.slice none 0 0) (.slice none 0 0)) ve es (.slice none 0 0) [] s))
    (hK : ∀ (u47 u48 u49 u50 u51 u52 u53 u54 u55 u56 u57 u58 u59 u60 u61 u62 : Value) (wx : World), Hid (RdW w0 cc X pm rr (cc ≤ ·) SV wx (msgC ⟨a0, a1, a2, a3, a4, a5, a6, a7, y, d, [], [], []⟩ u61 (.slice none 0 0) (.slice none 0 0)) u61 (es ++ [⟨entIx (a4 : Int) k, (n : Int), t⟩]) (.slice none 0 0) [] s2) → Q .normal ⟨#[c0, c1, c2, c3, .pointer (some ⟨pm, 0, none⟩), .pointer (some ⟨p, 0, none⟩), c6, c7, c8, .int .i64 (k : Int), c10, c11, c12, c13, c14, c15, c16, c17, c18, c19, c20, c21, c22, c23, c24, c25, c26, c27, c28, c29, c30, c31, c32, c33, c34, c35, c36, c37, c38, c39, c40, c41, c42, c43, c44, c45, c46, u47, u48, u49, u50, u51, u52, u53, u54, u55, u56, u57, u58, u59, u60, u61, u62, c63, c64, c65, c66, c67, c68, c69, c70, c71, c72, c73, c74, c75, c76, c77, c78, c79, c80, c81, c82, c83, c84, c85, c86, c87, c88, c89, c90, c91, c92, c93, c94, c95, c96, c97, c98, c99, c100, c101, c102, c103, c104, c105, c106, c107], []⟩ wx) :
    Code.wp Try.prog ((Try.f55.body.bind (regionAt 13)).getD .skip) Q ⟨#[c0, c1, c2, c3, .pointer (some ⟨pm, 0, none⟩), .pointer (some ⟨p, 0, none⟩), c6, c7, c8, .int .i64 (k : Int), c10, c11, c12, c13, c14, c15, c16, c17, c18, c19, c20, c21, c22, c23, c24, c25, c26, c27, c28, c29, c30, c31, c32, c33, c34, c35, c36, c37, c38, c39, c40, c41, c42, c43, c44, c45, c46, c47, c48, c49, c50, c51, c52, c53, c54, c55, c56, c57, c58, c59, c60, c61, c62, c63, c64, c65, c66, c67, c68, c69, c70, c71, c72, c73, c74, c75, c76, c77, c78, c79, c80, c81, c82, c83, c84, c85, c86, c87, c88, c89, c90, c91, c92, c93, c94, c95, c96, c97, c98, c99, c100, c101, c102, c103, c104, c105, c106, c107], []⟩ w := by
  conv => arg 2; whnf
  have hK2 := Lib.hid @hK
  have HCV := Lib.hid (conv_bytes (P := Try.prog) (src := 9) (dst := 24) t Try.underlying9 Try.underlying24 Try.underlying5)
  have hconv := HCV.out
  have hx1 : IntKind.i64.wrap ((a4 : Int) + 1) = wrap64 ((a4 : Int) + 1) := wrap_eq64 _
  have hx2 : IntKind.i64.wrap (wrap64 ((a4 : Int) + 1) + (k : Int)) = entIx (a4 : Int) k := wrap_eq64 _
  have HQ1 := Lib.hid q1
  have HQ2 := Lib.hid q2
  have HT := Lib.hid ht
  have HSB := Lib.hid (show ∀ W : World, W.heap.size ≤ (Lib.bytesWorld W 5 ⟨t.toArray⟩).heap.size from fun W => by rw [Lib.bytesWorld_size]; omega)
  have HIX := Lib.hid (entIx_I64 (a4 : Int) k)
  have HIN := Lib.hid (show I64 (n : Int) by unfold I64; omega)
  have HEL := Lib.hid (show es.length ≤ 9 by omega)
  have HS0 := Lib.hid (show ∀ W vx v es' s, RdW w0 cc X pm rr (cc ≤ ·) SV W (msgC ⟨a0, a1, a2, a3, a4, a5, a6, a7, y, d, [], [], []⟩ vx (.slice none 0 0) (.slice none 0 0)) v es' (.slice none 0 0) [] s → W.cell? ⟨pm, 4, none⟩ = some (.int .i64 (a4 : Int)) ∧ W.frozen? ⟨pm, 10, none⟩ = false from
    fun W vx v es' s hh => ⟨cell_blk hh.msg 4, frozen_blk hh.msg 10⟩)
  have HS1 := Lib.hid (show ∀ W v es' s, RdW w0 cc X pm rr (cc ≤ ·) SV W (msgC ⟨a0, a1, a2, a3, a4, a5, a6, a7, y, d, [], [], []⟩ ve (.slice none 0 0) (.slice none 0 0)) v es' (.slice none 0 0) [] s → W.cell? ⟨pm, 10, none⟩ = some ve from
    fun W v es' s hh => cell_blk hh.msg 10)
  clear hK hk hes hn q1 q2 HCV
  refine wpF_region (fun W => W.cell? ⟨pm, 4, none⟩ = some (.int .i64 (a4 : Int)) ∧ W.frozen? ⟨pm, 10, none⟩ = false) (fun W => W.cell? ⟨pm, 10, none⟩ = some ve) 14 17 (by kernel_rfl) (by kernel_rfl) ?_
  have hrd0 := h.out.ext_ L.out (Ext.refl w).drew
  refine wpF_take0 (i := 0) (v := ?v1) rfl (by kernel_rfl) (by kernel_rfl) (by kernel_rfl) (fun _ _ _ h => h) (by kernel_rfl) (Or.inl ⟨by rfl, ?hy1⟩) (HS0.out _ _ _ _ _ hrd0) (fun _ => HS1.out _ _ _ _ hrd0) ?rest1
  case hy1 => (intro W hSW; (try dsimp only at hSW); go_simp; (try with_reducible rfl))
  (try simp only [Act.put, List.setIfInBounds_toArray, List.set_cons_zero, List.set_cons_succ])
  refine wpF_take1 (i := 1) (v := ?v2) rfl (by kernel_rfl) (by kernel_rfl) (by kernel_rfl) (fun _ _ _ h => h) (by kernel_rfl) (by kernel_rfl) (by kernel_rfl) (Or.inl ⟨by rfl, ?hy2⟩) (HS0.out _ _ _ _ _ hrd0) (fun _ => HS1.out _ _ _ _ hrd0) ?rest2
  case hy2 => (intro W hSW; (try dsimp only at hSW); go_simp; (try with_reducible rfl))
  (try simp only [Act.put, List.setIfInBounds_toArray, List.set_cons_zero, List.set_cons_succ])
  refine wpF_take0 (i := 2) (v := ?v3) rfl (by kernel_rfl) (by kernel_rfl) (by kernel_rfl) (fun _ _ _ h => h) (by kernel_rfl) (Or.inl ⟨by rfl, ?hy3⟩) (HS0.out _ _ _ _ _ hrd0) (fun _ => HS1.out _ _ _ _ hrd0) ?rest3
  case hy3 => (intro W hSW; (try dsimp only at hSW); go_simp; (try with_reducible rfl))
  (try simp only [Act.put, List.setIfInBounds_toArray, List.set_cons_zero, List.set_cons_succ])
  refine wpF_take0 (i := 3) (v := ?v4) rfl (by kernel_rfl) (by kernel_rfl) (by kernel_rfl) (fun _ _ _ h => h) (by kernel_rfl) (Or.inl ⟨by rfl, ?hy4⟩) (HS0.out _ _ _ _ _ hrd0) (fun _ => HS1.out _ _ _ _ hrd0) ?rest4
  case hy4 => (intro W hSW; (try dsimp only at hSW); go_simp; (try with_reducible rfl))
  (try simp only [Act.put, List.setIfInBounds_toArray, List.set_cons_zero, List.set_cons_succ])
  refine wpF_take0 (i := 4) (v := ?v5) rfl (by kernel_rfl) (by kernel_rfl) (by kernel_rfl) (fun _ _ _ h => h) (by kernel_rfl) (Or.inl ⟨by rfl, ?hy5⟩) (HS0.out _ _ _ _ _ hrd0) (fun _ => HS1.out _ _ _ _ hrd0) ?rest5
  case hy5 => (intro W hSW; (try dsimp only at hSW); go_simp; (try with_reducible rfl))
  (try simp only [Act.put, List.setIfInBounds_toArray, List.set_cons_zero, List.set_cons_succ])
  refine wpF_take0 (i := 5) (v := ?v6) rfl (by kernel_rfl) (by kernel_rfl) (by kernel_rfl) (fun _ _ _ h => h) (by kernel_rfl) (Or.inl ⟨by rfl, ?hy6⟩) (HS0.out _ _ _ _ _ hrd0) (fun _ => HS1.out _ _ _ _ hrd0) ?rest6
  case hy6 => (intro W hSW; (try dsimp only at hSW); go_simp; (try with_reducible rfl))
  (try simp only [Act.put, List.setIfInBounds_toArray, List.set_cons_zero, List.set_cons_succ])
  refine wpF_take0 (i := 6) (v := ?v7) rfl (by kernel_rfl) (by kernel_rfl) (by kernel_rfl) (fun _ _ _ h => h) (by kernel_rfl) (Or.inl ⟨by rfl, ?hy7⟩) (HS0.out _ _ _ _ _ hrd0) (fun _ => HS1.out _ _ _ _ hrd0) ?rest7
  case hy7 => (intro W hSW; (try dsimp only at hSW); go_simp; (try with_reducible rfl))
  (try simp only [Act.put, List.setIfInBounds_toArray, List.set_cons_zero, List.set_cons_succ])
  refine wpF_take0 (i := 7) (v := ?v8) rfl (by kernel_rfl) (by kernel_rfl) (by kernel_rfl) (fun _ _ _ h => h) (by kernel_rfl) (Or.inl ⟨by rfl, ?hy8⟩) (HS0.out _ _ _ _ _ hrd0) (fun _ => HS1.out _ _ _ _ hrd0) ?rest8
  case hy8 => (intro W hSW; (try dsimp only at hSW); go_simp; (try with_reducible rfl))
  (try simp only [Act.put, List.setIfInBounds_toArray, List.set_cons_zero, List.set_cons_succ])
  refine wpF_take0 (i := 9) (v := ?v9) rfl (by kernel_rfl) (by kernel_rfl) (by kernel_rfl) (fun _ _ _ h => h) (by kernel_rfl) (Or.inl ⟨by rfl, ?hy9⟩) (HS0.out _ _ _ _ _ hrd0) (fun _ => HS1.out _ _ _ _ hrd0) ?rest9
  case hy9 => (intro W hSW; (try dsimp only at hSW); go_simp; (try with_reducible rfl))
  (try simp only [Act.put, List.setIfInBounds_toArray, List.set_cons_zero, List.set_cons_succ])
  refine wpF_step (i := 8) (by kernel_rfl) rfl (fun K hK => ?_)
  go_simp
  refine (Z.out.number L.out hrd0 HQ1.out).mono ?_
  rintro e w4 ⟨rfl, hrd4, hu4⟩
  (try go_wp2_with fail)
  refine hK.out _ _ (HS0.out _ _ _ _ _ hrd4) (fun _ => HS1.out _ _ _ _ hrd4) ?_
  clear hK K
  (try simp only [Act.put, List.setIfInBounds_toArray, List.set_cons_zero, List.set_cons_succ])
  refine wpF_step (i := 10) (by kernel_rfl) rfl (fun K hK => ?_)
  go_simp
  refine (Z.out.text L.out hrd4 HQ2.out).mono ?_
  rintro e w5 ⟨rfl, hrd5, hu5⟩
  (try go_wp2_with fail)
  refine hK.out _ _ (HS0.out _ _ _ _ _ hrd5) (fun _ => HS1.out _ _ _ _ hrd5) ?_
  clear hK K
  (try simp only [Act.put, List.setIfInBounds_toArray, List.set_cons_zero, List.set_cons_succ])
  have hrd6 := hrd5.ext_ L.out ((Ext.refl w5).bytes 5 ⟨t.toArray⟩)
  refine wpF_step (i := 11) (by kernel_rfl) rfl (fun K hK => ?_)
  go_simp
  refine hK.out _ _ (HS0.out _ _ _ _ _ hrd6) (fun _ => HS1.out _ _ _ _ hrd6) ?_
  clear hK K
  (try simp only [Act.put, List.setIfInBounds_toArray, List.set_cons_zero, List.set_cons_succ])
  refine wpF_take0 (i := 12) (v := ?v10) rfl (by kernel_rfl) (by kernel_rfl) (by kernel_rfl) (fun _ _ _ h => h) (by kernel_rfl) (Or.inl ⟨by rfl, ?hy10⟩) (HS0.out _ _ _ _ _ hrd6) (fun _ => HS1.out _ _ _ _ hrd6) ?rest10
  case hy10 => (intro W hSW; (try dsimp only at hSW); go_simp; (try with_reducible rfl))
  (try simp only [Act.put, List.setIfInBounds_toArray, List.set_cons_zero, List.set_cons_succ])
  have hrd7 := hrd6.ext_ L.out ((Ext.refl _).alloc (.cells #[.int .i64 (entIx (a4 : Int) k), .int .i64 (n : Int), .slice (some ⟨w5.heap.size, 0, none⟩) t.length (grownCap w5 t.length 0 5)] 71))
  refine wpF_step (i := 13) (by kernel_rfl) rfl (fun K hK => ?_)
  go_simp
  refine hK.out _ _ (HS0.out _ _ _ _ _ hrd7) (fun _ => HS1.out _ _ _ _ hrd7) ?_
  clear hK K
  (try simp only [Act.put, List.setIfInBounds_toArray, List.set_cons_zero, List.set_cons_succ])
  have hrdx := hrd7
  refine wpF_step (i := 14) (by kernel_rfl) rfl (fun K hK => ?_)
  refine step_app_ent 61 48 60 rfl rfl rfl (entIx (a4 : Int) k) (n : Int) _ t (w5.heap.size ≤ ·) w5 HIX.out HIN.out HEL.out (fun _ hb => hb) (HSB.out w5) (Rs.bytes w5 5 t HT.out) L.out hrd5 ((Ext.refl w5).bytes _ _) rfl rfl ?_
  intro v6 w6 hrd8
  obtain ⟨A6, x6, m6, e6⟩ : ∃ A x m, v6 = .slice A x m := by obtain ⟨A, c, e, _⟩ := id hrd8.ent.rs; exact ⟨_, _, _, e⟩
  subst e6
  refine hK.out _ _ (HS0.out _ _ _ _ _ hrd8) (gone (by kernel_rfl)) ?_
  clear hK K
  (try simp only [Act.put, List.setIfInBounds_toArray, List.set_cons_zero, List.set_cons_succ])
  refine wpF_take0 (i := 15) (v := ?v11) rfl (by kernel_rfl) (by kernel_rfl) (by kernel_rfl) (fun _ _ _ h => h) (by kernel_rfl) (Or.inl ⟨by rfl, ?hy11⟩) (HS0.out _ _ _ _ _ hrd8) (gone (by kernel_rfl)) ?rest11
  case hy11 => (intro W hSW; (try dsimp only at hSW); go_simp; (try with_reducible rfl))
  (try simp only [Act.put, List.setIfInBounds_toArray, List.set_cons_zero, List.set_cons_succ])
  have hc10 := HS1.out _ _ _ _ hrd8
  have hf10 := (HS0.out _ _ _ _ _ hrd8).2
  have hrd9 := (show RdW w0 cc X pm rr (cc ≤ ·) SV (w6.setCell ⟨pm, 10, none⟩ (.slice A6 x6 m6)) (msgC ⟨a0, a1, a2, a3, a4, a5, a6, a7, y, d, [], [], []⟩ (.slice A6 x6 m6) (.slice none 0 0) (.slice none 0 0)) (.slice A6 x6 m6) (es ++ [⟨entIx (a4 : Int) k, (n : Int), t⟩]) (.slice none 0 0) [] s2 from hrd8.set L.out 10 (.slice A6 x6 m6))
  refine wpF_step (i := 16) (by kernel_rfl) rfl (fun K hK => ?_)
  go_simp
  refine hK.out _ _ (HS0.out _ _ _ _ _ hrd9) (gone (by kernel_rfl)) ?_
  clear hK K
  (try simp only [Act.put, List.setIfInBounds_toArray, List.set_cons_zero, List.set_cons_succ])
  refine wpF_done (by kernel_rfl) ?_ _
  refine NoPanic.normal ?_
  exact hK2.out _ _ _ _ _ _ _ _ _ _ _ _ _ _ _ _ _  (Lib.hid hrd9)

set_option maxRecDepth 1000000 in
set_option maxHeartbeats 4000000 in
theorem rw18 {Q : Exit → Act → World → Prop} {w : World} {c0 c1 c2 c3 c6 c7 c8 c9 c10 c11 c12 c13 c14 c15 c16 c17 c18 c19 c20 c21 c22 c23 c24 c25 c26 c27 c28 c29 c30 c31 c32 c33 c34 c35 c36 c37 c38 c39 c40 c41 c42 c43 c44 c45 c46 c47 c48 c49 c50 c51 c52 c53 c54 c55 c56 c57 c58 c59 c60 c61 c62 c63 c64 c65 c66 c67 c68 c69 c70 c71 c72 c73 c74 c75 c76 c77 c78 c79 c80 c81 c82 c83 c84 c85 c86 c87 c88 c89 c90 c91 c92 c93 c94 c95 c96 c97 c98 c99 c100 c101 c102 c103 c104 c105 c106 c107 : Value} (w0 : World) (X : World → ScS → Prop) (C : Nat → Prop) (pm rr cb p q cc : Nat) (SE SV : Nat → Prop) (L : Hid (Lay w0 C X pm rr SE (cc ≤ ·))) (Z : Hid (ScnP X C p q)) (a0 a1 a2 a3 a4 a5 a6 a7 : Nat) (y d : Bool) (ve vv : Value) (es : List EntS) (vs : List Int) (n : Nat) (hvs : vs.length ≤ 9) (hn : n < 9223372036854775808) (s s1 : ScS) (q1 : s.number = (n, s1)) (h : Hid (RdW w0 cc X pm rr SE (cc ≤ ·) w (msgC ⟨a0, a1, a2, a3, a4, a5, a6, a7, y, d, [], [], []⟩ ve vv (.slice none 0 0)) ve es vv vs s))
    (hK : ∀ (u79 u80 u81 u82 u83 u84 u85 : Value) (wx : World), Hid (RdW w0 cc X pm rr SE (cc ≤ ·) wx (msgC ⟨a0, a1, a2, a3, a4, a5, a6, a7, y, d, [], [], []⟩ ve u84 (.slice none 0 0)) ve es u84 (vs ++ [(n : Int)]) s1) → Q .normal ⟨#[c0, c1, c2, c3, .pointer (some ⟨pm, 0, none⟩), .pointer (some ⟨p, 0, none⟩), c6, c7, c8, c9, c10, c11, c12, c13, c14, c15, c16, c17, c18, c19, c20, c21, c22, c23, c24, c25, c26, c27, c28, c29, c30, c31, c32, c33, c34, c35, c36, c37, c38, c39, c40, c41, c42, c43, c44, c45, c46, c47, c48, c49, c50, c51, c52, c53, c54, c55, c56, c57, c58, c59, c60, c61, c62, c63, c64, c65, c66, c67, c68, c69, c70, c71, c72, c73, c74, c75, c76, c77, c78, u79, u80, u81, u82, u83, u84, u85, c86, c87, c88, c89, c90, c91, c92, c93, c94, c95, c96, c97, c98, c99, c100, c101, c102, c103, c104, c105, c106, c107], []⟩ wx) :
    Code.wp Try.prog ((Try.f55.body.bind (regionAt 18)).getD .skip) Q ⟨#[c0, c1, c2, c3, .pointer (some ⟨pm, 0, none⟩), .pointer (some ⟨p, 0, none⟩), c6, c7, c8, c9, c10, c11, c12, c13, c14, c15, c16, c17, c18, c19, c20, c21, c22, c23, c24, c25, c26, c27, c28, c29, c30, c31, c32, c33, c34, c35, c36, c37, c38, c39, c40, c41, c42, c43, c44, c45, c46, c47, c48, c49, c50, c51, c52, c53, c54, c55, c56, c57, c58, c59, c60, c61, c62, c63, c64, c65, c66, c67, c68, c69, c70, c71, c72, c73, c74, c75, c76, c77, c78, c79, c80, c81, c82, c83, c84, c85, c86, c87, c88, c89, c90, c91, c92, c93, c94, c95, c96, c97, c98, c99, c100, c101, c102, c103, c104, c105, c106, c107], []⟩ w := by
  conv => arg 2; whnf
  have hK2 := Lib.hid @hK
  have HQ1 := Lib.hid q1
  have HIN := Lib.hid (show I64 (n : Int) by unfold I64; omega)
  have HVL := Lib.hid hvs
  have HS0 := Lib.hid (show ∀ W vx v vs' s, RdW w0 cc X pm rr SE (cc ≤ ·) W (msgC ⟨a0, a1, a2, a3, a4, a5, a6, a7, y, d, [], [], []⟩ ve vx (.slice none 0 0)) ve es v vs' s → W.frozen? ⟨pm, 11, none⟩ = false from
    fun W vx v vs' s hh => frozen_blk hh.msg 11)
  have HS1 := Lib.hid (show ∀ W v vs' s, RdW w0 cc X pm rr SE (cc ≤ ·) W (msgC ⟨a0, a1, a2, a3, a4, a5, a6, a7, y, d, [], [], []⟩ ve vv (.slice none 0 0)) ve es v vs' s → W.cell? ⟨pm, 11, none⟩ = some vv from
    fun W v vs' s hh => cell_blk hh.msg 11)
  clear hK hvs hn q1
  have hrd0 := h.out.ext_ L.out (Ext.refl w).drew
  refine wpF_region (fun W => W.frozen? ⟨pm, 11, none⟩ = false) (fun W => W.cell? ⟨pm, 11, none⟩ = some vv) 5 8 (by kernel_rfl) (by kernel_rfl) ?_
  refine wpF_take0 (i := 0) (v := ?v12) rfl (by kernel_rfl) (by kernel_rfl) (by kernel_rfl) (fun _ _ _ h => h) (by kernel_rfl) (Or.inl ⟨by rfl, ?hy12⟩) (HS0.out _ _ _ _ _ hrd0) (fun _ => HS1.out _ _ _ _ hrd0) ?rest12
  case hy12 => (intro W hSW; (try dsimp only at hSW); go_simp; (try with_reducible rfl))
  (try simp only [Act.put, List.setIfInBounds_toArray, List.set_cons_zero, List.set_cons_succ])
  refine wpF_take1 (i := 1) (v := ?v13) rfl (by kernel_rfl) (by kernel_rfl) (by kernel_rfl) (fun _ _ _ h => h) (by kernel_rfl) (by kernel_rfl) (by kernel_rfl) (Or.inl ⟨by rfl, ?hy13⟩) (HS0.out _ _ _ _ _ hrd0) (fun _ => HS1.out _ _ _ _ hrd0) ?rest13
  case hy13 => (intro W hSW; (try dsimp only at hSW); go_simp; (try with_reducible rfl))
  (try simp only [Act.put, List.setIfInBounds_toArray, List.set_cons_zero, List.set_cons_succ])
  refine wpF_take0 (i := 2) (v := ?v14) rfl (by kernel_rfl) (by kernel_rfl) (by kernel_rfl) (fun _ _ _ h => h) (by kernel_rfl) (Or.inl ⟨by rfl, ?hy14⟩) (HS0.out _ _ _ _ _ hrd0) (fun _ => HS1.out _ _ _ _ hrd0) ?rest14
  case hy14 => (intro W hSW; (try dsimp only at hSW); go_simp; (try with_reducible rfl))
  (try simp only [Act.put, List.setIfInBounds_toArray, List.set_cons_zero, List.set_cons_succ])
  refine wpF_step (i := 3) (by kernel_rfl) rfl (fun K hK => ?_)
  go_simp
  refine (Z.out.number L.out hrd0 HQ1.out).mono ?_
  rintro e w4 ⟨rfl, hrd4, hu4⟩
  (try go_wp2_with fail)
  refine hK.out _ _ (HS0.out _ _ _ _ _ hrd4) (fun _ => HS1.out _ _ _ _ hrd4) ?_
  clear hK K
  (try simp only [Act.put, List.setIfInBounds_toArray, List.set_cons_zero, List.set_cons_succ])
  have hrd7 := hrd4.ext_ L.out ((Ext.refl _).alloc (.cells #[.int .i64 (n : Int)] 3))
  refine wpF_step (i := 4) (by kernel_rfl) rfl (fun K hK => ?_)
  go_simp
  refine hK.out _ _ (HS0.out _ _ _ _ _ hrd7) (fun _ => HS1.out _ _ _ _ hrd7) ?_
  clear hK K
  (try simp only [Act.put, List.setIfInBounds_toArray, List.set_cons_zero, List.set_cons_succ])
  refine wpF_step (i := 5) (by kernel_rfl) rfl (fun K hK => ?_)
  refine step_app_int 84 80 83 rfl rfl rfl (n : Int) HIN.out HVL.out L.out hrd4 rfl rfl ?_
  intro v6 w6 hrd8
  obtain ⟨A6, x6, m6, e6⟩ : ∃ A x m, v6 = .slice A x m := by obtain ⟨A, c, e, _⟩ := id hrd8.vot.rs; exact ⟨_, _, _, e⟩
  subst e6
  refine hK.out _ _ (HS0.out _ _ _ _ _ hrd8) (gone (by kernel_rfl)) ?_
  clear hK K
  (try simp only [Act.put, List.setIfInBounds_toArray, List.set_cons_zero, List.set_cons_succ])
  refine wpF_take0 (i := 6) (v := ?v15) rfl (by kernel_rfl) (by kernel_rfl) (by kernel_rfl) (fun _ _ _ h => h) (by kernel_rfl) (Or.inl ⟨by rfl, ?hy15⟩) (HS0.out _ _ _ _ _ hrd8) (gone (by kernel_rfl)) ?rest15
  case hy15 => (intro W hSW; (try dsimp only at hSW); go_simp; (try with_reducible rfl))
  (try simp only [Act.put, List.setIfInBounds_toArray, List.set_cons_zero, List.set_cons_succ])
  have hc10 := HS1.out _ _ _ _ hrd8
  have hf10 := HS0.out _ _ _ _ _ hrd8
  have hrd9 := (show RdW w0 cc X pm rr SE (cc ≤ ·) (w6.setCell ⟨pm, 11, none⟩ (.slice A6 x6 m6)) (msgC ⟨a0, a1, a2, a3, a4, a5, a6, a7, y, d, [], [], []⟩ ve (.slice A6 x6 m6) (.slice none 0 0)) ve es (.slice A6 x6 m6) (vs ++ [(n : Int)]) s1 from hrd8.set L.out 11 (.slice A6 x6 m6))
  refine wpF_step (i := 7) (by kernel_rfl) rfl (fun K hK => ?_)
  go_simp
  refine hK.out _ _ (HS0.out _ _ _ _ _ hrd9) (gone (by kernel_rfl)) ?_
  clear hK K
  (try simp only [Act.put, List.setIfInBounds_toArray, List.set_cons_zero, List.set_cons_succ])
  refine wpF_done (by kernel_rfl) ?_ _
  refine NoPanic.normal ?_
  exact hK2.out _ _ _ _ _ _ _ _  (Lib.hid hrd9)

set_option maxRecDepth 1000000 in
set_option maxHeartbeats 4000000 in
theorem rw20 {K : Act → World → Prop} {Q : Exit → Act → World → Prop} {w : World} {c0 c1 c3 c6 c7 c9 c11 c12 c13 c14 c15 c16 c17 c18 c19 c20 c21 c22 c23 c24 c25 c26 c27 c28 c29 c30 c31 c32 c33 c34 c35 c36 c37 c38 c39 c40 c41 c42 c43 c44 c45 c46 c47 c48 c49 c50 c51 c52 c53 c54 c55 c56 c57 c58 c59 c60 c61 c62 c63 c64 c65 c66 c67 c68 c69 c70 c71 c72 c73 c74 c75 c76 c77 c78 c79 c80 c81 c82 c83 c84 c85 c86 c87 c88 c89 c90 c91 c92 c93 c94 c95 c96 c97 c98 c99 c100 c101 c102 c103 c104 c105 c106 c107 : Value} (w0 : World) (X : World → ScS → Prop) (C : Nat → Prop) (pm rr cb p q cc : Nat) (SE SV : Nat → Prop) (L : Hid (Lay w0 C X pm rr SE SV)) (Z : Hid (ScnP X C p q)) (a0 a1 a2 a3 a4 a5 a6 a7 : Nat) (y d : Bool) (Ae Av Ad : Option Addr) (ce cv cd : Nat) (es : List EntS) (vs : List Int) (t : List UInt8) (many voters : Nat) (s : ScS) (b1 b2 b3 : Bool) (SD : Nat → Prop) (hSD : ∀ b, SD b → ¬ C b ∧ b ≠ rr) (hD : Hid (Rs kByte w SD (.slice Ad t.length cd) t)) (hb1 : ((s.end_.e : Int) == 0) = b1) (hb2 : ((es.length : Int) == (many : Int)) = b2) (hb3 : ((vs.length : Int) == (voters : Int)) = b3) (h : Hid (RdW w0 cb X pm rr SE SV w (msgC ⟨a0, a1, a2, a3, a4, a5, a6, a7, y, d, [], [], []⟩ (.slice Ae es.length ce) (.slice Av vs.length cv) (.slice Ad t.length cd)) (.slice Ae es.length ce) es (.slice Av vs.length cv) vs s))
    (hK : ∀ (u90 u91 u92 u93 u94 u95 u96 u97 u98 u99 u100 u101 u102 u103 u104 u105 u106 u107 : Value) (wx : World), Hid (wx.heap[rr]? = some (.cells (msgC ⟨a0, a1, a2, a3, a4, a5, a6, a7, y, d, [], [], []⟩ (.slice Ae es.length ce) (.slice Av vs.length cv) (.slice Ad t.length cd)) 26 (0, 0)) ∧ Ow kEnt 71 wx w0.heap.size SE (.slice Ae es.length ce) es ∧ Ow kInt 3 wx w0.heap.size SV (.slice Av vs.length cv) vs ∧ Rs kByte wx SD (.slice Ad t.length cd) t ∧ Ext w0 wx) → K ⟨#[c0, c1, .pointer (some ⟨rr, 0, none⟩), .bool (b1 && (b2 && b3)), .pointer (some ⟨pm, 0, none⟩), .pointer (some ⟨p, 0, none⟩), c6, c7, .int .i64 (many : Int), c9, .int .i64 (voters : Int), c11, c12, c13, c14, c15, c16, c17, c18, c19, c20, c21, c22, c23, c24, c25, c26, c27, c28, c29, c30, c31, c32, c33, c34, c35, c36, c37, c38, c39, c40, c41, c42, c43, c44, c45, c46, c47, c48, c49, c50, c51, c52, c53, c54, c55, c56, c57, c58, c59, c60, c61, c62, c63, c64, c65, c66, c67, c68, c69, c70, c71, c72, c73, c74, c75, c76, c77, c78, c79, c80, c81, c82, c83, c84, c85, c86, c87, c88, c89, u90, u91, u92, u93, u94, u95, u96, u97, u98, u99, u100, u101, u102, u103, u104, u105, u106, u107], []⟩ wx) :
    Code.wp Try.prog ((Try.f55.body.bind (regionAt 20)).getD .skip) (Exit.then K Q) ⟨#[c0, c1, .pointer (some ⟨rr, 0, none⟩), c3, .pointer (some ⟨pm, 0, none⟩), .pointer (some ⟨p, 0, none⟩), c6, c7, .int .i64 (many : Int), c9, .int .i64 (voters : Int), c11, c12, c13, c14, c15, c16, c17, c18, c19, c20, c21, c22, c23, c24, c25, c26, c27, c28, c29, c30, c31, c32, c33, c34, c35, c36, c37, c38, c39, c40, c41, c42, c43, c44, c45, c46, c47, c48, c49, c50, c51, c52, c53, c54, c55, c56, c57, c58, c59, c60, c61, c62, c63, c64, c65, c66, c67, c68, c69, c70, c71, c72, c73, c74, c75, c76, c77, c78, c79, c80, c81, c82, c83, c84, c85, c86, c87, c88, c89, c90, c91, c92, c93, c94, c95, c96, c97, c98, c99, c100, c101, c102, c103, c104, c105, c106, c107], []⟩ w := by
  conv => arg 2; whnf
  have hK2 := Lib.hid @hK
  have HB1 := Lib.hid hb1
  have HS0 := Lib.hid (show ∀ W s, RdW w0 cb X pm rr SE SV W (msgC ⟨a0, a1, a2, a3, a4, a5, a6, a7, y, d, [], [], []⟩ (.slice Ae es.length ce) (.slice Av vs.length cv) (.slice Ad t.length cd)) (.slice Ae es.length ce) es (.slice Av vs.length cv) vs s → W.cell? ⟨pm, 0, none⟩ = some (.int .i64 (a0 : Int)) ∧ W.cell? ⟨pm, 1, none⟩ = some (.int .i64 (a1 : Int)) ∧ W.cell? ⟨pm, 2, none⟩ = some (.int .i64 (a2 : Int)) ∧ W.cell? ⟨pm, 3, none⟩ = some (.int .i64 (a3 : Int)) ∧ W.cell? ⟨pm, 4, none⟩ = some (.int .i64 (a4 : Int)) ∧ W.cell? ⟨pm, 5, none⟩ = some (.int .i64 (a5 : Int)) ∧ W.cell? ⟨pm, 6, none⟩ = some (.int .i64 (a6 : Int)) ∧ W.cell? ⟨pm, 7, none⟩ = some (.int .i64 (a7 : Int)) ∧ W.cell? ⟨pm, 8, none⟩ = some (.bool y) ∧ W.cell? ⟨pm, 9, none⟩ = some (.bool d) ∧ W.cell? ⟨pm, 10, none⟩ = some (.slice Ae es.length ce) ∧ W.cell? ⟨pm, 11, none⟩ = some (.slice Av vs.length cv) ∧ W.cell? ⟨pm, 12, none⟩ = some (.slice Ad t.length cd) from
    fun W s hh => ⟨cell_blk hh.msg 0, cell_blk hh.msg 1, cell_blk hh.msg 2, cell_blk hh.msg 3, cell_blk hh.msg 4, cell_blk hh.msg 5, cell_blk hh.msg 6, cell_blk hh.msg 7, cell_blk hh.msg 8, cell_blk hh.msg 9, cell_blk hh.msg 10, cell_blk hh.msg 11, cell_blk hh.msg 12⟩)
  have HP := Lib.hid (show ∀ W : World, W.heap[pm]? = some (.cells (msgC ⟨a0, a1, a2, a3, a4, a5, a6, a7, y, d, [], [], []⟩ (.slice Ae es.length ce) (.slice Av vs.length cv) (.slice Ad t.length cd)) 26 (0, 0)) → W.cell? ⟨pm, 0, none⟩ = some (.int .i64 (a0 : Int)) ∧ W.cell? ⟨pm, 1, none⟩ = some (.int .i64 (a1 : Int)) ∧ W.cell? ⟨pm, 2, none⟩ = some (.int .i64 (a2 : Int)) ∧ W.cell? ⟨pm, 3, none⟩ = some (.int .i64 (a3 : Int)) ∧ W.cell? ⟨pm, 4, none⟩ = some (.int .i64 (a4 : Int)) ∧ W.cell? ⟨pm, 5, none⟩ = some (.int .i64 (a5 : Int)) ∧ W.cell? ⟨pm, 6, none⟩ = some (.int .i64 (a6 : Int)) ∧ W.cell? ⟨pm, 7, none⟩ = some (.int .i64 (a7 : Int)) ∧ W.cell? ⟨pm, 8, none⟩ = some (.bool y) ∧ W.cell? ⟨pm, 9, none⟩ = some (.bool d) ∧ W.cell? ⟨pm, 10, none⟩ = some (.slice Ae es.length ce) ∧ W.cell? ⟨pm, 11, none⟩ = some (.slice Av vs.length cv) ∧ W.cell? ⟨pm, 12, none⟩ = some (.slice Ad t.length cd) from fun W hh => ⟨cell_blk hh 0, cell_blk hh 1, cell_blk hh 2, cell_blk hh 3, cell_blk hh 4, cell_blk hh 5, cell_blk hh 6, cell_blk hh 7, cell_blk hh 8, cell_blk hh 9, cell_blk hh 10, cell_blk hh 11, cell_blk hh 12⟩)
  have HR := Lib.hid (show ∀ W s, RdW w0 cb X pm rr SE SV W (msgC ⟨a0, a1, a2, a3, a4, a5, a6, a7, y, d, [], [], []⟩ (.slice Ae es.length ce) (.slice Av vs.length cv) (.slice Ad t.length cd)) (.slice Ae es.length ce) es (.slice Av vs.length cv) vs s → W.cell? ⟨rr, 0, none⟩ = some (.int .i64 0) ∧ W.frozen? ⟨rr, 0, none⟩ = false ∧ W.cell? ⟨rr, 1, none⟩ = some (.int .i64 0) ∧ W.frozen? ⟨rr, 1, none⟩ = false ∧ W.cell? ⟨rr, 2, none⟩ = some (.int .i64 0) ∧ W.frozen? ⟨rr, 2, none⟩ = false ∧ W.cell? ⟨rr, 3, none⟩ = some (.int .i64 0) ∧ W.frozen? ⟨rr, 3, none⟩ = false ∧ W.cell? ⟨rr, 4, none⟩ = some (.int .i64 0) ∧ W.frozen? ⟨rr, 4, none⟩ = false ∧ W.cell? ⟨rr, 5, none⟩ = some (.int .i64 0) ∧ W.frozen? ⟨rr, 5, none⟩ = false ∧ W.cell? ⟨rr, 6, none⟩ = some (.int .i64 0) ∧ W.frozen? ⟨rr, 6, none⟩ = false ∧ W.cell? ⟨rr, 7, none⟩ = some (.int .i64 0) ∧ W.frozen? ⟨rr, 7, none⟩ = false ∧ W.cell? ⟨rr, 8, none⟩ = some (.bool false) ∧ W.frozen? ⟨rr, 8, none⟩ = false ∧ W.cell? ⟨rr, 9, none⟩ = some (.bool false) ∧ W.frozen? ⟨rr, 9, none⟩ = false ∧ W.cell? ⟨rr, 10, none⟩ = some (.slice none 0 0) ∧ W.frozen? ⟨rr, 10, none⟩ = false ∧ W.cell? ⟨rr, 11, none⟩ = some (.slice none 0 0) ∧ W.frozen? ⟨rr, 11, none⟩ = false ∧ W.cell? ⟨rr, 12, none⟩ = some (.slice none 0 0) ∧ W.frozen? ⟨rr, 12, none⟩ = false from
    fun W s hh => ⟨cell_blk hh.res 0, frozen_blk hh.res 0, cell_blk hh.res 1, frozen_blk hh.res 1, cell_blk hh.res 2, frozen_blk hh.res 2, cell_blk hh.res 3, frozen_blk hh.res 3, cell_blk hh.res 4, frozen_blk hh.res 4, cell_blk hh.res 5, frozen_blk hh.res 5, cell_blk hh.res 6, frozen_blk hh.res 6, cell_blk hh.res 7, frozen_blk hh.res 7, cell_blk hh.res 8, frozen_blk hh.res 8, cell_blk hh.res 9, frozen_blk hh.res 9, cell_blk hh.res 10, frozen_blk hh.res 10, cell_blk hh.res 11, frozen_blk hh.res 11, cell_blk hh.res 12, frozen_blk hh.res 12⟩)
  clear hK
  have hrd0 := h.out.ext_ L.out (Ext.refl w).drew
  refine wpF_region (fun W => W.cell? ⟨pm, 0, none⟩ = some (.int .i64 (a0 : Int)) ∧ W.cell? ⟨pm, 1, none⟩ = some (.int .i64 (a1 : Int)) ∧ W.cell? ⟨pm, 2, none⟩ = some (.int .i64 (a2 : Int)) ∧ W.cell? ⟨pm, 3, none⟩ = some (.int .i64 (a3 : Int)) ∧ W.cell? ⟨pm, 4, none⟩ = some (.int .i64 (a4 : Int)) ∧ W.cell? ⟨pm, 5, none⟩ = some (.int .i64 (a5 : Int)) ∧ W.cell? ⟨pm, 6, none⟩ = some (.int .i64 (a6 : Int)) ∧ W.cell? ⟨pm, 7, none⟩ = some (.int .i64 (a7 : Int)) ∧ W.cell? ⟨pm, 8, none⟩ = some (.bool y) ∧ W.cell? ⟨pm, 9, none⟩ = some (.bool d) ∧ W.cell? ⟨pm, 10, none⟩ = some (.slice Ae es.length ce) ∧ W.cell? ⟨pm, 11, none⟩ = some (.slice Av vs.length cv) ∧ W.cell? ⟨pm, 12, none⟩ = some (.slice Ad t.length cd)) (fun _ => True) 18 20 (by kernel_rfl) (by kernel_rfl) ?_
  refine wpF_take0 (i := 0) (v := ?v16) rfl (by kernel_rfl) (by kernel_rfl) (by kernel_rfl) (fun _ _ _ h => h) (by kernel_rfl) (Or.inl ⟨by rfl, ?hy16⟩) (HS0.out _ _ hrd0) (fun _ => trivial) ?rest16
  case hy16 => (intro W hSW; (try dsimp only at hSW); go_simp; (try with_reducible rfl))
  (try simp only [Act.put, List.setIfInBounds_toArray, List.set_cons_zero, List.set_cons_succ])
  refine wpF_take0 (i := 1) (v := ?v17) rfl (by kernel_rfl) (by kernel_rfl) (by kernel_rfl) (fun _ _ _ h => h) (by kernel_rfl) (Or.inl ⟨by rfl, ?hy17⟩) (HS0.out _ _ hrd0) (fun _ => trivial) ?rest17
  case hy17 => (intro W hSW; (try dsimp only at hSW); go_simp; (try with_reducible rfl))
  (try simp only [Act.put, List.setIfInBounds_toArray, List.set_cons_zero, List.set_cons_succ])
  refine wpF_step (i := 2) (by kernel_rfl) rfl (fun K hK => ?_)
  go_simp
  refine (Z.out.end_ L.out hrd0).mono ?_
  rintro e w4 ⟨rfl, hrd4, hup4⟩
  (try go_wp2_with fail)
  refine hK.out _ _ (HS0.out _ _ hrd4) (fun _ => trivial) ?_
  clear hK K
  (try simp only [Act.put, List.setIfInBounds_toArray, List.set_cons_zero, List.set_cons_succ])
  refine wpF_take0 (i := 3) (v := ?v18) rfl (by kernel_rfl) (by kernel_rfl) (by kernel_rfl) (fun _ _ _ h => h) (by kernel_rfl) (Or.inl ⟨by rfl, ?hy18⟩) (HS0.out _ _ hrd4) (fun _ => trivial) ?rest18
  case hy18 => (intro W hSW; (try dsimp only at hSW); go_simp; (try with_reducible rfl))
  (try simp only [Act.put, List.setIfInBounds_toArray, List.set_cons_zero, List.set_cons_succ])
  refine wpF_take0 (i := 4) (v := ?v19) rfl (by kernel_rfl) (by kernel_rfl) (by kernel_rfl) (fun _ _ _ h => h) (by kernel_rfl) (Or.inl ⟨by rfl, ?hy19⟩) (HS0.out _ _ hrd4) (fun _ => trivial) ?rest19
  case hy19 => (intro W hSW; (try dsimp only at hSW); go_simp; (try with_reducible rfl))
  (try simp only [Act.put, List.setIfInBounds_toArray, List.set_cons_zero, List.set_cons_succ])
  cases b1
  · refine wpF_take0 (i := 5) (v := undef) rfl (by kernel_rfl) (by kernel_rfl) (by kernel_rfl) (fun _ _ _ h => h) (by kernel_rfl) (Or.inr ⟨by rfl, rfl⟩) (HS0.out _ _ hrd4) (fun _ => trivial) ?rest1001
    (try simp only [Act.put, List.setIfInBounds_toArray, List.set_cons_zero, List.set_cons_succ])
    refine wpF_take0 (i := 6) (v := undef) rfl (by kernel_rfl) (by kernel_rfl) (by kernel_rfl) (fun _ _ _ h => h) (by kernel_rfl) (Or.inr ⟨by rfl, rfl⟩) (HS0.out _ _ hrd4) (fun _ => trivial) ?rest1002
    (try simp only [Act.put, List.setIfInBounds_toArray, List.set_cons_zero, List.set_cons_succ])
    refine wpF_take0 (i := 7) (v := undef) rfl (by kernel_rfl) (by kernel_rfl) (by kernel_rfl) (fun _ _ _ h => h) (by kernel_rfl) (Or.inr ⟨by rfl, rfl⟩) (HS0.out _ _ hrd4) (fun _ => trivial) ?rest1003
    (try simp only [Act.put, List.setIfInBounds_toArray, List.set_cons_zero, List.set_cons_succ])
    refine wpF_take0 (i := 8) (v := undef) rfl (by kernel_rfl) (by kernel_rfl) (by kernel_rfl) (fun _ _ _ h => h) (by kernel_rfl) (Or.inr ⟨by rfl, rfl⟩) (HS0.out _ _ hrd4) (fun _ => trivial) ?rest1004
    (try simp only [Act.put, List.setIfInBounds_toArray, List.set_cons_zero, List.set_cons_succ])
    refine wpF_take0 (i := 9) (v := undef) rfl (by kernel_rfl) (by kernel_rfl) (by kernel_rfl) (fun _ _ _ h => h) (by kernel_rfl) (Or.inr ⟨by rfl, rfl⟩) (HS0.out _ _ hrd4) (fun _ => trivial) ?rest1005
    (try simp only [Act.put, List.setIfInBounds_toArray, List.set_cons_zero, List.set_cons_succ])
    refine wpF_take0 (i := 10) (v := ?v1006) rfl (by kernel_rfl) (by kernel_rfl) (by kernel_rfl) (fun _ _ _ h => h) (by kernel_rfl) (Or.inl ⟨by rfl, ?hy1006⟩) (HS0.out _ _ hrd4) (fun _ => trivial) ?rest1006
    case hy1006 => (intro W hSW; (try dsimp only at hSW); go_simp; (try with_reducible rfl))
    (try simp only [Act.put, List.setIfInBounds_toArray, List.set_cons_zero, List.set_cons_succ])
    refine wpF_take0 (i := 11) (v := ?v1007) rfl (by kernel_rfl) (by kernel_rfl) (by kernel_rfl) (fun _ _ _ h => h) (by kernel_rfl) (Or.inl ⟨by rfl, ?hy1007⟩) (HS0.out _ _ hrd4) (fun _ => trivial) ?rest1007
    case hy1007 => (intro W hSW; (try dsimp only at hSW); go_simp; (try with_reducible rfl))
    (try simp only [Act.put, List.setIfInBounds_toArray, List.set_cons_zero, List.set_cons_succ])
    refine wpF_take0 (i := 12) (v := undef) rfl (by kernel_rfl) (by kernel_rfl) (by kernel_rfl) (fun _ _ _ h => h) (by kernel_rfl) (Or.inr ⟨by rfl, rfl⟩) (HS0.out _ _ hrd4) (fun _ => trivial) ?rest1008
    (try simp only [Act.put, List.setIfInBounds_toArray, List.set_cons_zero, List.set_cons_succ])
    refine wpF_take0 (i := 13) (v := undef) rfl (by kernel_rfl) (by kernel_rfl) (by kernel_rfl) (fun _ _ _ h => h) (by kernel_rfl) (Or.inr ⟨by rfl, rfl⟩) (HS0.out _ _ hrd4) (fun _ => trivial) ?rest1009
    (try simp only [Act.put, List.setIfInBounds_toArray, List.set_cons_zero, List.set_cons_succ])
    refine wpF_take0 (i := 14) (v := undef) rfl (by kernel_rfl) (by kernel_rfl) (by kernel_rfl) (fun _ _ _ h => h) (by kernel_rfl) (Or.inr ⟨by rfl, rfl⟩) (HS0.out _ _ hrd4) (fun _ => trivial) ?rest1010
    (try simp only [Act.put, List.setIfInBounds_toArray, List.set_cons_zero, List.set_cons_succ])
    refine wpF_take0 (i := 15) (v := undef) rfl (by kernel_rfl) (by kernel_rfl) (by kernel_rfl) (fun _ _ _ h => h) (by kernel_rfl) (Or.inr ⟨by rfl, rfl⟩) (HS0.out _ _ hrd4) (fun _ => trivial) ?rest1011
    (try simp only [Act.put, List.setIfInBounds_toArray, List.set_cons_zero, List.set_cons_succ])
    refine wpF_take0 (i := 16) (v := undef) rfl (by kernel_rfl) (by kernel_rfl) (by kernel_rfl) (fun _ _ _ h => h) (by kernel_rfl) (Or.inr ⟨by rfl, rfl⟩) (HS0.out _ _ hrd4) (fun _ => trivial) ?rest1012
    (try simp only [Act.put, List.setIfInBounds_toArray, List.set_cons_zero, List.set_cons_succ])
    refine wpF_take0 (i := 17) (v := ?v1013) rfl (by kernel_rfl) (by kernel_rfl) (by kernel_rfl) (fun _ _ _ h => h) (by kernel_rfl) (Or.inl ⟨by rfl, ?hy1013⟩) (HS0.out _ _ hrd4) (fun _ => trivial) ?rest1013
    case hy1013 => (intro W hSW; (try dsimp only at hSW); go_simp; (try with_reducible rfl))
    (try simp only [Act.put, List.setIfInBounds_toArray, List.set_cons_zero, List.set_cons_succ])
    obtain ⟨r0, f0, r1, f1, r2, f2, r3, f3, r4, f4, r5, f5, r6, f6, r7, f7, r8, f8, r9, f9, r10, f10, r11, f11, r12, f12⟩ := HR.out _ _ hrd4
    obtain ⟨k1, k2, k3, k4, k5⟩ := hrd4.result L.out ⟨a0, a1, a2, a3, a4, a5, a6, a7, y, d, [], [], []⟩ (.slice Ae es.length ce) (.slice Av vs.length cv) (.slice Ad t.length cd)
    have k6 := (hD.out.drew.upd hup4 (fun b hb => (hSD b hb).1)).upd (setM_upd w4 rr ⟨a0, a1, a2, a3, a4, a5, a6, a7, y, d, [], [], []⟩ (.slice Ae es.length ce) (.slice Av vs.length cv) (.slice Ad t.length cd)) (fun b hb => (hSD b hb).2)
    refine wpF_step (i := 18) (by kernel_rfl) rfl (fun K hK => ?_)
    go_simp
    refine hK.out _ _ (HP.out _ k2) (gone (by kernel_rfl)) ?_
    clear hK K
    (try simp only [Act.put, List.setIfInBounds_toArray, List.set_cons_zero, List.set_cons_succ])
    refine wpF_take0 (i := 19) (v := ?v1014) rfl (by kernel_rfl) (by kernel_rfl) (by kernel_rfl) (fun _ _ _ h => h) (by kernel_rfl) (Or.inl ⟨by rfl, ?hy1014⟩) (HP.out _ k2) (gone (by kernel_rfl)) ?rest1014
    case hy1014 => (intro W hSW; (try dsimp only at hSW); go_simp; (try with_reducible rfl))
    (try simp only [Act.put, List.setIfInBounds_toArray, List.set_cons_zero, List.set_cons_succ])
    refine wpF_done (by kernel_rfl) ?_ _
    refine NoPanic.normal ?_
    exact hK2.out _ _ _ _ _ _ _ _ _ _ _ _ _ _ _ _ _ _ _  (Lib.hid ⟨k1, k3, k4, k6, k5⟩)
  cases b2
  · refine wpF_take0 (i := 5) (v := ?v2001) rfl (by kernel_rfl) (by kernel_rfl) (by kernel_rfl) (fun _ _ _ h => h) (by kernel_rfl) (Or.inl ⟨by rfl, ?hy2001⟩) (HS0.out _ _ hrd4) (fun _ => trivial) ?rest2001
    case hy2001 => (intro W hSW; (try dsimp only at hSW); go_simp; (try with_reducible rfl))
    (try simp only [Act.put, List.setIfInBounds_toArray, List.set_cons_zero, List.set_cons_succ])
    refine wpF_take0 (i := 6) (v := ?v2002) rfl (by kernel_rfl) (by kernel_rfl) (by kernel_rfl) (fun _ _ _ h => h) (by kernel_rfl) (Or.inl ⟨by rfl, ?hy2002⟩) (HS0.out _ _ hrd4) (fun _ => trivial) ?rest2002
    case hy2002 => (intro W hSW; (try dsimp only at hSW); go_simp; (try with_reducible rfl))
    (try simp only [Act.put, List.setIfInBounds_toArray, List.set_cons_zero, List.set_cons_succ])
    refine wpF_take0 (i := 7) (v := ?v2003) rfl (by kernel_rfl) (by kernel_rfl) (by kernel_rfl) (fun _ _ _ h => h) (by kernel_rfl) (Or.inl ⟨by rfl, ?hy2003⟩) (HS0.out _ _ hrd4) (fun _ => trivial) ?rest2003
    case hy2003 => (intro W hSW; (try dsimp only at hSW); go_simp; (try with_reducible rfl))
    (try simp only [Act.put, List.setIfInBounds_toArray, List.set_cons_zero, List.set_cons_succ])
    refine wpF_take0 (i := 8) (v := ?v2004) rfl (by kernel_rfl) (by kernel_rfl) (by kernel_rfl) (fun _ _ _ h => h) (by kernel_rfl) (Or.inl ⟨by rfl, ?hy2004⟩) (HS0.out _ _ hrd4) (fun _ => trivial) ?rest2004
    case hy2004 => (intro W hSW; (try dsimp only at hSW); go_simp; (try with_reducible rfl))
    (try simp only [Act.put, List.setIfInBounds_toArray, List.set_cons_zero, List.set_cons_succ])
    refine wpF_take0 (i := 9) (v := ?v2005) rfl (by kernel_rfl) (by kernel_rfl) (by kernel_rfl) (fun _ _ _ h => h) (by kernel_rfl) (Or.inl ⟨by rfl, ?hy2005⟩) (HS0.out _ _ hrd4) (fun _ => trivial) ?rest2005
    case hy2005 => (intro W hSW; (try dsimp only at hSW); go_simp; (try with_reducible rfl))
    (try simp only [Act.put, List.setIfInBounds_toArray, List.set_cons_zero, List.set_cons_succ])
    refine wpF_take0 (i := 10) (v := ?v2006) rfl (by kernel_rfl) (by kernel_rfl) (by kernel_rfl) (fun _ _ _ h => h) (by kernel_rfl) (Or.inl ⟨by rfl, ?hy2006⟩) (HS0.out _ _ hrd4) (fun _ => trivial) ?rest2006
    case hy2006 => (intro W hSW; (try dsimp only at hSW); go_simp; (try with_reducible rfl))
    (try simp only [Act.put, List.setIfInBounds_toArray, List.set_cons_zero, List.set_cons_succ])
    refine wpF_take0 (i := 11) (v := ?v2007) rfl (by kernel_rfl) (by kernel_rfl) (by kernel_rfl) (fun _ _ _ h => h) (by kernel_rfl) (Or.inl ⟨by rfl, ?hy2007⟩) (HS0.out _ _ hrd4) (fun _ => trivial) ?rest2007
    case hy2007 => (intro W hSW; (try dsimp only at hSW); go_simp; (try with_reducible rfl))
    (try simp only [Act.put, List.setIfInBounds_toArray, List.set_cons_zero, List.set_cons_succ])
    refine wpF_take0 (i := 12) (v := undef) rfl (by kernel_rfl) (by kernel_rfl) (by kernel_rfl) (fun _ _ _ h => h) (by kernel_rfl) (Or.inr ⟨by rfl, rfl⟩) (HS0.out _ _ hrd4) (fun _ => trivial) ?rest2008
    (try simp only [Act.put, List.setIfInBounds_toArray, List.set_cons_zero, List.set_cons_succ])
    refine wpF_take0 (i := 13) (v := undef) rfl (by kernel_rfl) (by kernel_rfl) (by kernel_rfl) (fun _ _ _ h => h) (by kernel_rfl) (Or.inr ⟨by rfl, rfl⟩) (HS0.out _ _ hrd4) (fun _ => trivial) ?rest2009
    (try simp only [Act.put, List.setIfInBounds_toArray, List.set_cons_zero, List.set_cons_succ])
    refine wpF_take0 (i := 14) (v := undef) rfl (by kernel_rfl) (by kernel_rfl) (by kernel_rfl) (fun _ _ _ h => h) (by kernel_rfl) (Or.inr ⟨by rfl, rfl⟩) (HS0.out _ _ hrd4) (fun _ => trivial) ?rest2010
    (try simp only [Act.put, List.setIfInBounds_toArray, List.set_cons_zero, List.set_cons_succ])
    refine wpF_take0 (i := 15) (v := undef) rfl (by kernel_rfl) (by kernel_rfl) (by kernel_rfl) (fun _ _ _ h => h) (by kernel_rfl) (Or.inr ⟨by rfl, rfl⟩) (HS0.out _ _ hrd4) (fun _ => trivial) ?rest2011
    (try simp only [Act.put, List.setIfInBounds_toArray, List.set_cons_zero, List.set_cons_succ])
    refine wpF_take0 (i := 16) (v := undef) rfl (by kernel_rfl) (by kernel_rfl) (by kernel_rfl) (fun _ _ _ h => h) (by kernel_rfl) (Or.inr ⟨by rfl, rfl⟩) (HS0.out _ _ hrd4) (fun _ => trivial) ?rest2012
    (try simp only [Act.put, List.setIfInBounds_toArray, List.set_cons_zero, List.set_cons_succ])
    refine wpF_take0 (i := 17) (v := ?v2013) rfl (by kernel_rfl) (by kernel_rfl) (by kernel_rfl) (fun _ _ _ h => h) (by kernel_rfl) (Or.inl ⟨by rfl, ?hy2013⟩) (HS0.out _ _ hrd4) (fun _ => trivial) ?rest2013
    case hy2013 => (intro W hSW; (try dsimp only at hSW); go_simp; (try with_reducible rfl))
    (try simp only [Act.put, List.setIfInBounds_toArray, List.set_cons_zero, List.set_cons_succ])
    obtain ⟨r0, f0, r1, f1, r2, f2, r3, f3, r4, f4, r5, f5, r6, f6, r7, f7, r8, f8, r9, f9, r10, f10, r11, f11, r12, f12⟩ := HR.out _ _ hrd4
    obtain ⟨k1, k2, k3, k4, k5⟩ := hrd4.result L.out ⟨a0, a1, a2, a3, a4, a5, a6, a7, y, d, [], [], []⟩ (.slice Ae es.length ce) (.slice Av vs.length cv) (.slice Ad t.length cd)
    have k6 := (hD.out.drew.upd hup4 (fun b hb => (hSD b hb).1)).upd (setM_upd w4 rr ⟨a0, a1, a2, a3, a4, a5, a6, a7, y, d, [], [], []⟩ (.slice Ae es.length ce) (.slice Av vs.length cv) (.slice Ad t.length cd)) (fun b hb => (hSD b hb).2)
    refine wpF_step (i := 18) (by kernel_rfl) rfl (fun K hK => ?_)
    go_simp
    refine hK.out _ _ (HP.out _ k2) (gone (by kernel_rfl)) ?_
    clear hK K
    (try simp only [Act.put, List.setIfInBounds_toArray, List.set_cons_zero, List.set_cons_succ])
    refine wpF_take0 (i := 19) (v := ?v2014) rfl (by kernel_rfl) (by kernel_rfl) (by kernel_rfl) (fun _ _ _ h => h) (by kernel_rfl) (Or.inl ⟨by rfl, ?hy2014⟩) (HP.out _ k2) (gone (by kernel_rfl)) ?rest2014
    case hy2014 => (intro W hSW; (try dsimp only at hSW); go_simp; (try with_reducible rfl))
    (try simp only [Act.put, List.setIfInBounds_toArray, List.set_cons_zero, List.set_cons_succ])
    refine wpF_done (by kernel_rfl) ?_ _
    refine NoPanic.normal ?_
    exact hK2.out _ _ _ _ _ _ _ _ _ _ _ _ _ _ _ _ _ _ _  (Lib.hid ⟨k1, k3, k4, k6, k5⟩)
  · refine wpF_take0 (i := 5) (v := ?v3001) rfl (by kernel_rfl) (by kernel_rfl) (by kernel_rfl) (fun _ _ _ h => h) (by kernel_rfl) (Or.inl ⟨by rfl, ?hy3001⟩) (HS0.out _ _ hrd4) (fun _ => trivial) ?rest3001
    case hy3001 => (intro W hSW; (try dsimp only at hSW); go_simp; (try with_reducible rfl))
    (try simp only [Act.put, List.setIfInBounds_toArray, List.set_cons_zero, List.set_cons_succ])
    refine wpF_take0 (i := 6) (v := ?v3002) rfl (by kernel_rfl) (by kernel_rfl) (by kernel_rfl) (fun _ _ _ h => h) (by kernel_rfl) (Or.inl ⟨by rfl, ?hy3002⟩) (HS0.out _ _ hrd4) (fun _ => trivial) ?rest3002
    case hy3002 => (intro W hSW; (try dsimp only at hSW); go_simp; (try with_reducible rfl))
    (try simp only [Act.put, List.setIfInBounds_toArray, List.set_cons_zero, List.set_cons_succ])
    refine wpF_take0 (i := 7) (v := ?v3003) rfl (by kernel_rfl) (by kernel_rfl) (by kernel_rfl) (fun _ _ _ h => h) (by kernel_rfl) (Or.inl ⟨by rfl, ?hy3003⟩) (HS0.out _ _ hrd4) (fun _ => trivial) ?rest3003
    case hy3003 => (intro W hSW; (try dsimp only at hSW); go_simp; (try with_reducible rfl))
    (try simp only [Act.put, List.setIfInBounds_toArray, List.set_cons_zero, List.set_cons_succ])
    refine wpF_take0 (i := 8) (v := ?v3004) rfl (by kernel_rfl) (by kernel_rfl) (by kernel_rfl) (fun _ _ _ h => h) (by kernel_rfl) (Or.inl ⟨by rfl, ?hy3004⟩) (HS0.out _ _ hrd4) (fun _ => trivial) ?rest3004
    case hy3004 => (intro W hSW; (try dsimp only at hSW); go_simp; (try with_reducible rfl))
    (try simp only [Act.put, List.setIfInBounds_toArray, List.set_cons_zero, List.set_cons_succ])
    refine wpF_take0 (i := 9) (v := ?v3005) rfl (by kernel_rfl) (by kernel_rfl) (by kernel_rfl) (fun _ _ _ h => h) (by kernel_rfl) (Or.inl ⟨by rfl, ?hy3005⟩) (HS0.out _ _ hrd4) (fun _ => trivial) ?rest3005
    case hy3005 => (intro W hSW; (try dsimp only at hSW); go_simp; (try with_reducible rfl))
    (try simp only [Act.put, List.setIfInBounds_toArray, List.set_cons_zero, List.set_cons_succ])
    refine wpF_take0 (i := 10) (v := ?v3006) rfl (by kernel_rfl) (by kernel_rfl) (by kernel_rfl) (fun _ _ _ h => h) (by kernel_rfl) (Or.inl ⟨by rfl, ?hy3006⟩) (HS0.out _ _ hrd4) (fun _ => trivial) ?rest3006
    case hy3006 => (intro W hSW; (try dsimp only at hSW); go_simp; (try with_reducible rfl))
    (try simp only [Act.put, List.setIfInBounds_toArray, List.set_cons_zero, List.set_cons_succ])
    refine wpF_take0 (i := 11) (v := ?v3007) rfl (by kernel_rfl) (by kernel_rfl) (by kernel_rfl) (fun _ _ _ h => h) (by kernel_rfl) (Or.inl ⟨by rfl, ?hy3007⟩) (HS0.out _ _ hrd4) (fun _ => trivial) ?rest3007
    case hy3007 => (intro W hSW; (try dsimp only at hSW); go_simp; (try with_reducible rfl))
    (try simp only [Act.put, List.setIfInBounds_toArray, List.set_cons_zero, List.set_cons_succ])
    refine wpF_take0 (i := 12) (v := ?v3008) rfl (by kernel_rfl) (by kernel_rfl) (by kernel_rfl) (fun _ _ _ h => h) (by kernel_rfl) (Or.inl ⟨by rfl, ?hy3008⟩) (HS0.out _ _ hrd4) (fun _ => trivial) ?rest3008
    case hy3008 => (intro W hSW; (try dsimp only at hSW); go_simp; (try with_reducible rfl))
    (try simp only [Act.put, List.setIfInBounds_toArray, List.set_cons_zero, List.set_cons_succ])
    refine wpF_take0 (i := 13) (v := ?v3009) rfl (by kernel_rfl) (by kernel_rfl) (by kernel_rfl) (fun _ _ _ h => h) (by kernel_rfl) (Or.inl ⟨by rfl, ?hy3009⟩) (HS0.out _ _ hrd4) (fun _ => trivial) ?rest3009
    case hy3009 => (intro W hSW; (try dsimp only at hSW); go_simp; (try with_reducible rfl))
    (try simp only [Act.put, List.setIfInBounds_toArray, List.set_cons_zero, List.set_cons_succ])
    refine wpF_take0 (i := 14) (v := ?v3010) rfl (by kernel_rfl) (by kernel_rfl) (by kernel_rfl) (fun _ _ _ h => h) (by kernel_rfl) (Or.inl ⟨by rfl, ?hy3010⟩) (HS0.out _ _ hrd4) (fun _ => trivial) ?rest3010
    case hy3010 => (intro W hSW; (try dsimp only at hSW); go_simp; (try with_reducible rfl))
    (try simp only [Act.put, List.setIfInBounds_toArray, List.set_cons_zero, List.set_cons_succ])
    refine wpF_take0 (i := 15) (v := ?v3011) rfl (by kernel_rfl) (by kernel_rfl) (by kernel_rfl) (fun _ _ _ h => h) (by kernel_rfl) (Or.inl ⟨by rfl, ?hy3011⟩) (HS0.out _ _ hrd4) (fun _ => trivial) ?rest3011
    case hy3011 => (intro W hSW; (try dsimp only at hSW); go_simp; (try with_reducible rfl))
    (try simp only [Act.put, List.setIfInBounds_toArray, List.set_cons_zero, List.set_cons_succ])
    refine wpF_take0 (i := 16) (v := ?v3012) rfl (by kernel_rfl) (by kernel_rfl) (by kernel_rfl) (fun _ _ _ h => h) (by kernel_rfl) (Or.inl ⟨by rfl, ?hy3012⟩) (HS0.out _ _ hrd4) (fun _ => trivial) ?rest3012
    case hy3012 => (intro W hSW; (try dsimp only at hSW); go_simp; (try with_reducible rfl))
    (try simp only [Act.put, List.setIfInBounds_toArray, List.set_cons_zero, List.set_cons_succ])
    refine wpF_take0 (i := 17) (v := ?v3013) rfl (by kernel_rfl) (by kernel_rfl) (by kernel_rfl) (fun _ _ _ h => h) (by kernel_rfl) (Or.inl ⟨by rfl, ?hy3013⟩) (HS0.out _ _ hrd4) (fun _ => trivial) ?rest3013
    case hy3013 => (intro W hSW; (try dsimp only at hSW); go_simp; (try with_reducible rfl))
    (try simp only [Act.put, List.setIfInBounds_toArray, List.set_cons_zero, List.set_cons_succ])
    obtain ⟨r0, f0, r1, f1, r2, f2, r3, f3, r4, f4, r5, f5, r6, f6, r7, f7, r8, f8, r9, f9, r10, f10, r11, f11, r12, f12⟩ := HR.out _ _ hrd4
    obtain ⟨k1, k2, k3, k4, k5⟩ := hrd4.result L.out ⟨a0, a1, a2, a3, a4, a5, a6, a7, y, d, [], [], []⟩ (.slice Ae es.length ce) (.slice Av vs.length cv) (.slice Ad t.length cd)
    have k6 := (hD.out.drew.upd hup4 (fun b hb => (hSD b hb).1)).upd (setM_upd w4 rr ⟨a0, a1, a2, a3, a4, a5, a6, a7, y, d, [], [], []⟩ (.slice Ae es.length ce) (.slice Av vs.length cv) (.slice Ad t.length cd)) (fun b hb => (hSD b hb).2)
    refine wpF_step (i := 18) (by kernel_rfl) rfl (fun K hK => ?_)
    go_simp
    refine hK.out _ _ (HP.out _ k2) (gone (by kernel_rfl)) ?_
    clear hK K
    (try simp only [Act.put, List.setIfInBounds_toArray, List.set_cons_zero, List.set_cons_succ])
    refine wpF_take0 (i := 19) (v := ?v3014) rfl (by kernel_rfl) (by kernel_rfl) (by kernel_rfl) (fun _ _ _ h => h) (by kernel_rfl) (Or.inl ⟨by rfl, ?hy3014⟩) (HP.out _ k2) (gone (by kernel_rfl)) ?rest3014
    case hy3014 => (intro W hSW; (try dsimp only at hSW); go_simp; (try with_reducible rfl))
    (try simp only [Act.put, List.setIfInBounds_toArray, List.set_cons_zero, List.set_cons_succ])
    refine wpF_done (by kernel_rfl) ?_ _
    refine NoPanic.normal ?_
    exact hK2.out _ _ _ _ _ _ _ _ _ _ _ _ _ _ _ _ _ _ _  (Lib.hid ⟨k1, k3, k4, k6, k5⟩)
end Go.Proofs.Ytfflcnlgkbgbhaa
