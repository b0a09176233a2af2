/-
  Texts of this claim, put together: MsgCheck.
-/
import Derived.Test.YtfflcnlgkbgbhaaZ2
import Derived.Test.YtfflcnlgkbgbhaaZ4
import Derived.Deep.DeepCutAuto
import Derived.Deep.CutBlock
set_option linter.unusedVariables false
set_option linter.unusedSimpArgs false
namespace Go.Proofs.Ytfflcnlgkbgbhaa
open Go.RowKit

theorem node_calls (w : World) (n : Int) :
    Calls Try.prog 64 #[.int .i64 n] w fun e w' => e = .returned (.bool (nodeB n)) ∧ w = w' := by
  by_cases h0 : 0 ≤ n
  · by_cases h7 : n < 7
    · have HN := Lib.hid (show nodeB n = true by unfold nodeB; rw [decide_eq_true h0, decide_eq_true h7]; rfl)
      go_enter Try.func64, Try.ntmps64
      go_wp2
      go_ret
      exact ⟨bool_ret HN.out.symm, rfl⟩
    · have HN := Lib.hid (show nodeB n = false by unfold nodeB; rw [decide_eq_false h7, Bool.and_false])
      have hd : decide (n < 7) = false := decide_eq_false h7
      go_enter Try.func64, Try.ntmps64
      go_wp2
      go_ret
      exact ⟨bool_ret HN.out.symm, rfl⟩
  · have HN := Lib.hid (show nodeB n = false by unfold nodeB; rw [decide_eq_false h0, Bool.false_and])
    have hd : decide (0 ≤ n) = false := decide_eq_false h0
    go_enter Try.func64, Try.ntmps64
    go_wp2
    go_ret
    exact ⟨bool_ret HN.out.symm, rfl⟩

theorem withinB_take_succ (l : List Int) (k : Nat) (hk : k < l.length) : withinB (l.take (k + 1)) = (withinB (l.take k) && inB l[k]) := by
  unfold withinB; rw [List.take_succ_eq_append_getElem hk, List.all_append]; simp
set_option maxHeartbeats 400000 in
theorem within_calls (w : World) (S : Nat → Prop) (v : Value) (l : List Int) (hr : Rs kInt w S v l) :
    Calls Try.prog 65 #[v] w fun e w' => e = .returned (.bool (withinB l)) ∧ w = w' := by
  obtain ⟨A, c, rfl, hl, hc, hz, hrow⟩ := hr
  have HR := Lib.hid hrow
  clear hrow
  go_enter Try.func65, Try.ntmps65
  go_wp2
  go_loop [7] (fun i => ∃ k : Nat, k ≤ l.length ∧ i = .int .i64 k ∧ Hid (withinB (l.take k) = true)) (fun i => l.length - (intOf i).toNat)
  case atStart => exact ⟨0, Nat.zero_le _, rfl, Lib.hid rfl⟩
  case round =>
    obtain ⟨k, hk, rfl, HQ⟩ := hrel
    by_cases hlt : k < l.length
    · obtain ⟨ad, rfl, hcell, _⟩ := HR.out.int hlt
      have HS := Lib.hid (withinB_take_succ l k hlt)
      cases hin : inB l[k]
      · have HF := Lib.hid (show withinB l = false by
          unfold withinB
          rw [List.all_eq_false]
          exact ⟨l[k], List.getElem_mem _, by rw [hin]; decide⟩)
        by_cases h0 : l[k] < 0
        · have hd : decide (l[k] < 0) = true := decide_eq_true h0
          clear hin h0
          generalize l[k] = x at hcell hd HS
          go_wp2
          go_ret
          exact ⟨bool_ret HF.out.symm, rfl⟩
        · have hd : decide (l[k] < 0) = false := decide_eq_false h0
          have hd2 : decide (1099511627776 < l[k]) = true := decide_eq_true (by
            unfold inB at hin
            rw [decide_eq_true (by omega), Bool.true_and, decide_eq_false_iff_not] at hin
            omega)
          clear hin h0
          generalize l[k] = x at hcell hd hd2 HS
          go_wp2
          go_ret
          exact ⟨bool_ret HF.out.symm, rfl⟩
      · have HF := Lib.hid (show withinB (l.take (k + 1)) = true by rw [HS.out, HQ.out, hin]; rfl)
        unfold inB at hin
        simp only [Bool.and_eq_true, decide_eq_true_eq] at hin
        have hd : decide (l[k] < 0) = false := decide_eq_false (by omega)
        have hd2 : decide (1099511627776 < l[k]) = false := decide_eq_false (by omega)
        clear hin
        generalize l[k] = x at hcell hd hd2 HS
        go_wp2
        go_round
        case rel => exact ⟨k + 1, by omega, by go_num, HF⟩
        case measure => simp [intOf]; omega
    · obtain rfl : k = l.length := by omega
      have HF := Lib.hid (show withinB l = true by have := HQ.out; rwa [List.take_length] at this)
      clear hlt
      go_wp2
      go_ret
      exact ⟨bool_ret HF.out.symm, rfl⟩

/-- A region of a code, a block of it. -/
def regionAt (n : Nat) : Code → Option Code
  | .region i o d => if i = n then some (.region i o d) else none
  | .loop c => regionAt n c
  | .seq a b => match regionAt n a with
    | some c => some c
    | none => regionAt n b
  | .block _ c => regionAt n c
  | .scope c => regionAt n c
  | .cond _ a b => match regionAt n a with
    | some c => some c
    | none => regionAt n b
  | _ => none
def blockAt (n : Nat) : Code → Option Code
  | .loop c => blockAt n c
  | .seq a b => match blockAt n a with
    | some c => some c
    | none => blockAt n b
  | .block i c => if i = n then some (.block i c) else blockAt n c
  | .scope c => blockAt n c
  | .cond _ a b => match blockAt n a with
    | some c => some c
    | none => blockAt n b
  | _ => none
/-- What holds of every message, by its fields. -/
def headF (fr to_ term index logTerm commit round : Int) : Bool := nodeB fr && (nodeB to_ && (decide (fr ≠ to_) && (withinB [term, index, logTerm, commit, round] && decide (0 < term))))
/-- Of its kind, by its fields. -/
def kindF (kind : Int) (h : Bool) (index logTerm term : Int) (c : Bool) : Bool :=
  if kind = 1 ∨ kind = 2 ∨ kind = 4 ∨ kind = 6 then h
  else if kind = 3 then h && (decide (index = 0) == decide (logTerm = 0)) && decide (logTerm ≤ term)
  else if kind = 5 then h && decide (0 < index) && decide (0 < logTerm) && decide (logTerm ≤ term) && c
  else false
set_option maxRecDepth 1000000 in
set_option maxHeartbeats 4000000 in
theorem chkA {K : Act → World → Prop} {Q : Exit → Act → World → Prop} {w : World} {c0 c2 c3 c4 c5 c6 c7 c8 c9 c10 c11 c12 c13 c14 c15 c16 c17 c18 c19 c20 c21 c22 c23 c24 c25 c26 c27 c28 c29 c30 c31 c32 c33 c34 c35 c36 c37 c38 c39 c40 c41 c42 c43 c44 c45 c46 c47 c48 c49 c50 c51 c52 c53 c54 c55 c56 c57 c58 c59 c60 c61 c62 c63 c64 c65 c66 c67 c68 c69 c70 c71 c72 c73 c74 c75 c76 c77 c78 c79 c80 c81 c82 c83 c84 c85 c86 c87 c88 c89 c90 c91 c92 c93 c94 c95 c96 c97 c98 c99 c100 c101 c102 c103 c104 c105 c106 c107 c108 c109 c110 c111 c112 c113 c114 c115 c116 c117 c118 c119 c120 c121 c122 c123 c124 c125 c126 c127 c128 c129 c130 c131 c132 c133 c134 c135 c136 c137 c138 c139 c140 c141 c142 c143 c144 c145 c146 c147 c148 c149 c150 c151 c152 c153 c154 c155 c156 c157 c158 c159 c160 c161 c162 c163 c164 c165 c166 c167 c168 c169 c170 c171 c172 c173 c174 c175 c176 c177 c178 c179 c180 c181 c182 c183 c184 c185 c186 c187 c188 c189 : Value} (p : Nat) (kind fr to_ term index logTerm commit round : Int) (yes done : Bool) (Ae : Option Addr) (ne ce : Nat) (Av : Option Addr) (nv cv : Nat) (Ad : Option Addr) (nd cd : Nat)
    (HB : Hid (w.heap[p]? = some (.cells #[.int .i64 kind, .int .i64 fr, .int .i64 to_, .int .i64 term, .int .i64 index, .int .i64 logTerm, .int .i64 commit, .int .i64 round, .bool yes, .bool done, .slice Ae ne ce, .slice Av nv cv, .slice Ad nd cd] 26 (0, 0))))
    (HL : Hid (∀ x ∈ [term, index, logTerm, commit, round], I64 x))
    (hK : ∀ (u11 u12 u13 u14 u15 u16 u17 u18 u19 u20 u21 u22 u23 u24 u25 u26 u27 u28 u29 u30 u31 u32 u33 u34 u35 u36 u37 u38 u39 u40 u41 u42 u43 u44 : Value) (wx : World), Ext w wx → K ⟨#[c0, .pointer (some ⟨p, 0, none⟩), c2, .bool (headF fr to_ term index logTerm commit round), c4, c5, c6, c7, c8, c9, c10, u11, u12, u13, u14, u15, u16, u17, u18, u19, u20, u21, u22, u23, u24, u25, u26, u27, u28, u29, u30, u31, u32, u33, u34, u35, u36, u37, u38, u39, u40, u41, u42, u43, u44, c45, c46, c47, c48, c49, c50, c51, c52, c53, c54, c55, c56, c57, c58, c59, c60, c61, c62, c63, c64, c65, c66, c67, c68, c69, c70, c71, c72, c73, c74, c75, c76, c77, c78, c79, c80, c81, c82, c83, c84, c85, c86, c87, c88, c89, c90, c91, c92, c93, c94, c95, c96, c97, c98, c99, c100, c101, c102, c103, c104, c105, c106, c107, c108, c109, c110, c111, c112, c113, c114, c115, c116, c117, c118, c119, c120, c121, c122, c123, c124, c125, c126, c127, c128, c129, c130, c131, c132, c133, c134, c135, c136, c137, c138, c139, c140, c141, c142, c143, c144, c145, c146, c147, c148, c149, c150, c151, c152, c153, c154, c155, c156, c157, c158, c159, c160, c161, c162, c163, c164, c165, c166, c167, c168, c169, c170, c171, c172, c173, c174, c175, c176, c177, c178, c179, c180, c181, c182, c183, c184, c185, c186, c187, c188, c189], []⟩ wx) :
    Code.wp Try.prog ((Try.f42.body.bind (regionAt 1)).getD .skip) (Exit.then K Q) ⟨#[c0, .pointer (some ⟨p, 0, none⟩), c2, c3, c4, c5, c6, c7, c8, c9, c10, c11, c12, c13, c14, c15, c16, c17, c18, c19, c20, c21, c22, c23, c24, c25, c26, c27, c28, c29, c30, c31, c32, c33, c34, c35, c36, c37, c38, c39, c40, c41, c42, c43, c44, c45, c46, c47, c48, c49, c50, c51, c52, c53, c54, c55, c56, c57, c58, c59, c60, c61, c62, c63, c64, c65, c66, c67, c68, c69, c70, c71, c72, c73, c74, c75, c76, c77, c78, c79, c80, c81, c82, c83, c84, c85, c86, c87, c88, c89, c90, c91, c92, c93, c94, c95, c96, c97, c98, c99, c100, c101, c102, c103, c104, c105, c106, c107, c108, c109, c110, c111, c112, c113, c114, c115, c116, c117, c118, c119, c120, c121, c122, c123, c124, c125, c126, c127, c128, c129, c130, c131, c132, c133, c134, c135, c136, c137, c138, c139, c140, c141, c142, c143, c144, c145, c146, c147, c148, c149, c150, c151, c152, c153, c154, c155, c156, c157, c158, c159, c160, c161, c162, c163, c164, c165, c166, c167, c168, c169, c170, c171, c172, c173, c174, c175, c176, c177, c178, c179, c180, c181, c182, c183, c184, c185, c186, c187, c188, c189], []⟩ w := by
  conv => arg 2; whnf
  have hc1 : w.cell? ⟨p, 1, none⟩ = some (.int .i64 fr) := cell_blk HB.out 1
  have hc2 : w.cell? ⟨p, 2, none⟩ = some (.int .i64 to_) := cell_blk HB.out 2
  have hc3 : w.cell? ⟨p, 3, none⟩ = some (.int .i64 term) := cell_blk HB.out 3
  have hc4 : w.cell? ⟨p, 4, none⟩ = some (.int .i64 index) := cell_blk HB.out 4
  have hc5 : w.cell? ⟨p, 5, none⟩ = some (.int .i64 logTerm) := cell_blk HB.out 5
  have hc6 : w.cell? ⟨p, 6, none⟩ = some (.int .i64 commit) := cell_blk HB.out 6
  have hc7 : w.cell? ⟨p, 7, none⟩ = some (.int .i64 round) := cell_blk HB.out 7
  have HK := Lib.hid hK
  clear hK
  go_wp2_with fail
  refine (node_calls _ fr).mono ?_
  rintro e w' ⟨rfl, rfl⟩
  cases h1 : nodeB fr
  · have HF := Lib.hid (show headF fr to_ term index logTerm commit round = false by unfold headF; rw [h1]; rfl)
    rw [HF.out] at HK
    go_wp2_with fail
    exact HK.out _ _ _ _ _ _ _ _ _ _ _ _ _ _ _ _ _ _ _ _ _ _ _ _ _ _ _ _ _ _ _ _ _ _ _ (Ext.refl _)
  · go_wp2_with fail
    refine (node_calls _ to_).mono ?_
    rintro e w' ⟨rfl, rfl⟩
    cases h2 : nodeB to_
    · have HF := Lib.hid (show headF fr to_ term index logTerm commit round = false by unfold headF; rw [h1, h2]; rfl)
      rw [HF.out] at HK
      go_wp2_with fail
      exact HK.out _ _ _ _ _ _ _ _ _ _ _ _ _ _ _ _ _ _ _ _ _ _ _ _ _ _ _ _ _ _ _ _ _ _ _ (Ext.refl _)
    · by_cases h3 : fr = to_
      · have hb3 : (fr != to_) = false := by simp [h3]
        have HF := Lib.hid (show headF fr to_ term index logTerm commit round = false by unfold headF; rw [h1, h2, decide_eq_false (fun h => h h3)]; rfl)
        rw [HF.out] at HK
        go_wp2_with fail
        exact HK.out _ _ _ _ _ _ _ _ _ _ _ _ _ _ _ _ _ _ _ _ _ _ _ _ _ _ _ _ _ _ _ _ _ _ _ (Ext.refl _)
      · have hb3 : (fr != to_) = true := bne_iff_ne.2 h3
        go_wp2_with fail
        refine (within_calls _ _ _ [term, index, logTerm, commit, round] (Rs.ints _ _ 3 rfl _ HL.out (by simp))).mono ?_
        rintro e w2 ⟨rfl, hw⟩
        have HX2 := Lib.hid (show Ext w w2 from hw ▸ (Ext.refl w).alloc _)
        clear hw
        have hc3' : w2.cell? ⟨p, 3, none⟩ = some (.int .i64 term) := cell_blk (blk_ext HB.out HX2.out) 3
        cases h4 : withinB [term, index, logTerm, commit, round]
        · have HF := Lib.hid (show headF fr to_ term index logTerm commit round = false by unfold headF; rw [h1, h2, decide_eq_true h3, h4]; rfl)
          rw [HF.out] at HK
          go_wp2_with fail
          exact HK.out _ _ _ _ _ _ _ _ _ _ _ _ _ _ _ _ _ _ _ _ _ _ _ _ _ _ _ _ _ _ _ _ _ _ _ HX2.out
        · by_cases h5 : 0 < term
          · have hd5 : decide (0 < term) = true := decide_eq_true h5
            have HF := Lib.hid (show headF fr to_ term index logTerm commit round = true by unfold headF; rw [h1, h2, decide_eq_true h3, h4, hd5]; rfl)
            rw [HF.out] at HK
            go_wp2_with fail
            exact HK.out _ _ _ _ _ _ _ _ _ _ _ _ _ _ _ _ _ _ _ _ _ _ _ _ _ _ _ _ _ _ _ _ _ _ _ HX2.out
          · have hd5 : decide (0 < term) = false := decide_eq_false h5
            have HF := Lib.hid (show headF fr to_ term index logTerm commit round = false by unfold headF; rw [h1, h2, decide_eq_true h3, h4, hd5]; rfl)
            rw [HF.out] at HK
            go_wp2_with fail
            exact HK.out _ _ _ _ _ _ _ _ _ _ _ _ _ _ _ _ _ _ _ _ _ _ _ _ _ _ _ _ _ _ _ _ _ _ _ HX2.out
set_option maxRecDepth 1000000 in
set_option maxHeartbeats 4000000 in
theorem chkB {K : Act → World → Prop} {Q : Exit → Act → World → Prop} {w : World} {c0 c2 c7 c8 c9 c10 c11 c12 c13 c14 c15 c16 c17 c18 c19 c20 c21 c22 c23 c24 c25 c26 c27 c28 c29 c30 c31 c32 c33 c34 c35 c36 c37 c38 c39 c40 c41 c42 c43 c44 c45 c47 c48 c49 c50 c51 c52 c53 c54 c55 c56 c57 c58 c59 c60 c61 c62 c63 c64 c65 c66 c67 c68 c69 c70 c71 c72 c73 c74 c75 c76 c77 c78 c79 c80 c81 c82 c83 c84 c85 c86 c87 c88 c89 c90 c91 c92 c93 c94 c95 c96 c97 c98 c99 c100 c101 c102 c103 c104 c105 c106 c107 c108 c109 c110 c111 c112 c113 c114 c115 c116 c117 c118 c119 c120 c121 c122 c123 c124 c125 c126 c127 c128 c129 c130 c131 c132 c133 c134 c135 c136 c137 c138 c139 c140 c141 c142 c143 c144 c145 c146 c147 c148 c149 c150 c151 c152 c153 c154 c155 c156 c157 c158 c159 c160 c161 c162 c163 c164 c165 c166 c167 c168 c169 c170 c171 c172 c173 c174 c175 c176 c177 c178 c179 c180 c181 c182 c183 c184 c185 c186 c187 c188 c189 : Value} (p : Nat) (kind fr to_ term index logTerm commit round : Int) (yes done : Bool) (Ae : Option Addr) (ne ce : Nat) (Av : Option Addr) (nv cv : Nat) (Ad : Option Addr) (nd cd : Nat)
    (HB : Hid (w.heap[p]? = some (.cells #[.int .i64 kind, .int .i64 fr, .int .i64 to_, .int .i64 term, .int .i64 index, .int .i64 logTerm, .int .i64 commit, .int .i64 round, .bool yes, .bool done, .slice Ae ne ce, .slice Av nv cv, .slice Ad nd cd] 26 (0, 0)))) (h c : Bool) (chkV : Int) (HCV : Hid (chkV = if c = true then 0 else 100)) (HCK : Hid (Calls Try.prog 66 #[.slice Av nv cv] w fun e w' => e = .returned (.int .i64 chkV) ∧ w = w'))
    (hK : ∀ (u47 u48 u49 u50 u51 u52 u53 u54 u55 u56 u57 u58 u59 u60 u61 u62 u63 u64 u65 u66 u67 u68 u69 u70 u71 u72 u73 u74 u75 u76 u77 u78 u79 u80 u81 u82 u83 u84 u85 u86 u87 u88 u89 u90 u91 u92 u93 u94 u95 u96 : Value) (wx : World), w = wx → K ⟨#[c0, .pointer (some ⟨p, 0, none⟩), c2, .bool (kindF kind h index logTerm term c), .bool (decide (kind = 3)), .bool (decide (kind = 5)), .bool (decide (kind = 5)), c7, c8, c9, c10, c11, c12, c13, c14, c15, c16, c17, c18, c19, c20, c21, c22, c23, c24, c25, c26, c27, c28, c29, c30, c31, c32, c33, c34, c35, c36, c37, c38, c39, c40, c41, c42, c43, c44, c45, .int .i64 kind, u47, u48, u49, u50, u51, u52, u53, u54, u55, u56, u57, u58, u59, u60, u61, u62, u63, u64, u65, u66, u67, u68, u69, u70, u71, u72, u73, u74, u75, u76, u77, u78, u79, u80, u81, u82, u83, u84, u85, u86, u87, u88, u89, u90, u91, u92, u93, u94, u95, u96, c97, c98, c99, c100, c101, c102, c103, c104, c105, c106, c107, c108, c109, c110, c111, c112, c113, c114, c115, c116, c117, c118, c119, c120, c121, c122, c123, c124, c125, c126, c127, c128, c129, c130, c131, c132, c133, c134, c135, c136, c137, c138, c139, c140, c141, c142, c143, c144, c145, c146, c147, c148, c149, c150, c151, c152, c153, c154, c155, c156, c157, c158, c159, c160, c161, c162, c163, c164, c165, c166, c167, c168, c169, c170, c171, c172, c173, c174, c175, c176, c177, c178, c179, c180, c181, c182, c183, c184, c185, c186, c187, c188, c189], []⟩ wx) :
    Code.wp Try.prog ((Try.f42.body.bind (blockAt 0)).getD .skip) (Exit.then K Q) ⟨#[c0, .pointer (some ⟨p, 0, none⟩), c2, .bool h, .bool false, .bool false, .bool false, c7, c8, c9, c10, c11, c12, c13, c14, c15, c16, c17, c18, c19, c20, c21, c22, c23, c24, c25, c26, c27, c28, c29, c30, c31, c32, c33, c34, c35, c36, c37, c38, c39, c40, c41, c42, c43, c44, c45, .int .i64 kind, c47, c48, c49, c50, c51, c52, c53, c54, c55, c56, c57, c58, c59, c60, c61, c62, c63, c64, c65, c66, c67, c68, c69, c70, c71, c72, c73, c74, c75, c76, c77, c78, c79, c80, c81, c82, c83, c84, c85, c86, c87, c88, c89, c90, c91, c92, c93, c94, c95, c96, c97, c98, c99, c100, c101, c102, c103, c104, c105, c106, c107, c108, c109, c110, c111, c112, c113, c114, c115, c116, c117, c118, c119, c120, c121, c122, c123, c124, c125, c126, c127, c128, c129, c130, c131, c132, c133, c134, c135, c136, c137, c138, c139, c140, c141, c142, c143, c144, c145, c146, c147, c148, c149, c150, c151, c152, c153, c154, c155, c156, c157, c158, c159, c160, c161, c162, c163, c164, c165, c166, c167, c168, c169, c170, c171, c172, c173, c174, c175, c176, c177, c178, c179, c180, c181, c182, c183, c184, c185, c186, c187, c188, c189], []⟩ w := by
  conv => arg 2; whnf
  have HK := Lib.hid hK
  clear hK
  by_cases hk1 : kind = 1
  · subst hk1
    have HF := Lib.hid (show kindF 1 h index logTerm term c = h by unfold kindF; rfl)
    rw [HF.out] at HK
    go_wp2_with fail
    exact HK.out _ _ _ _ _ _ _ _ _ _ _ _ _ _ _ _ _ _ _ _ _ _ _ _ _ _ _ _ _ _ _ _ _ _ _ _ _ _ _ _ _ _ _ _ _ _ _ _ _ _ _ rfl
  · by_cases hk2 : kind = 2
    · subst hk2
      have HF := Lib.hid (show kindF 2 h index logTerm term c = h by unfold kindF; rfl)
      rw [HF.out] at HK
      go_wp2_with fail
      exact HK.out _ _ _ _ _ _ _ _ _ _ _ _ _ _ _ _ _ _ _ _ _ _ _ _ _ _ _ _ _ _ _ _ _ _ _ _ _ _ _ _ _ _ _ _ _ _ _ _ _ _ _ rfl
    · by_cases hk4 : kind = 4
      · subst hk4
        have HF := Lib.hid (show kindF 4 h index logTerm term c = h by unfold kindF; rfl)
        rw [HF.out] at HK
        go_wp2_with fail
        exact HK.out _ _ _ _ _ _ _ _ _ _ _ _ _ _ _ _ _ _ _ _ _ _ _ _ _ _ _ _ _ _ _ _ _ _ _ _ _ _ _ _ _ _ _ _ _ _ _ _ _ _ _ rfl
      · by_cases hk6 : kind = 6
        · subst hk6
          have HF := Lib.hid (show kindF 6 h index logTerm term c = h by unfold kindF; rfl)
          rw [HF.out] at HK
          go_wp2_with fail
          exact HK.out _ _ _ _ _ _ _ _ _ _ _ _ _ _ _ _ _ _ _ _ _ _ _ _ _ _ _ _ _ _ _ _ _ _ _ _ _ _ _ _ _ _ _ _ _ _ _ _ _ _ _ rfl
        · by_cases hk3 : kind = 3
          · subst hk3
            have hc3 : w.cell? ⟨p, 3, none⟩ = some (.int .i64 term) := cell_blk HB.out 3
            have hc4 : w.cell? ⟨p, 4, none⟩ = some (.int .i64 index) := cell_blk HB.out 4
            have hc5 : w.cell? ⟨p, 5, none⟩ = some (.int .i64 logTerm) := cell_blk HB.out 5
            cases h
            · have HF := Lib.hid (show kindF 3 false index logTerm term c = false by unfold kindF; rfl)
              rw [HF.out] at HK
              go_wp2_with fail
              exact HK.out _ _ _ _ _ _ _ _ _ _ _ _ _ _ _ _ _ _ _ _ _ _ _ _ _ _ _ _ _ _ _ _ _ _ _ _ _ _ _ _ _ _ _ _ _ _ _ _ _ _ _ rfl
            · by_cases hi : index = 0
              · by_cases hl : logTerm = 0
                · by_cases ht : logTerm ≤ term
                  · have hbi : (index == 0) = true := by simp [hi]
                    have hbl : (logTerm == 0) = true := by simp [hl]
                    have hdt : decide (logTerm ≤ term) = true := decide_eq_true ht
                    have HF := Lib.hid (show kindF 3 true index logTerm term c = true by unfold kindF; rw [if_neg (by omega), if_pos rfl, decide_eq_true hi, decide_eq_true hl, hdt]; rfl)
                    clear hi hl
                    clear ht
                    rw [HF.out] at HK
                    go_wp2_with fail
                    exact HK.out _ _ _ _ _ _ _ _ _ _ _ _ _ _ _ _ _ _ _ _ _ _ _ _ _ _ _ _ _ _ _ _ _ _ _ _ _ _ _ _ _ _ _ _ _ _ _ _ _ _ _ rfl
                  · have hbi : (index == 0) = true := by simp [hi]
                    have hbl : (logTerm == 0) = true := by simp [hl]
                    have hdt : decide (logTerm ≤ term) = false := decide_eq_false ht
                    have HF := Lib.hid (show kindF 3 true index logTerm term c = false by unfold kindF; rw [if_neg (by omega), if_pos rfl, decide_eq_true hi, decide_eq_true hl, hdt]; rfl)
                    clear hi hl
                    clear ht
                    rw [HF.out] at HK
                    go_wp2_with fail
                    exact HK.out _ _ _ _ _ _ _ _ _ _ _ _ _ _ _ _ _ _ _ _ _ _ _ _ _ _ _ _ _ _ _ _ _ _ _ _ _ _ _ _ _ _ _ _ _ _ _ _ _ _ _ rfl
                · have hbi : (index == 0) = true := by simp [hi]
                  have hbl : (logTerm == 0) = false := by simp [hl]
                  have HF := Lib.hid (show kindF 3 true index logTerm term c = false by unfold kindF; rw [if_neg (by omega), if_pos rfl, decide_eq_true hi, decide_eq_false hl]; rfl)
                  clear hi hl
                  rw [HF.out] at HK
                  go_wp2_with fail
                  exact HK.out _ _ _ _ _ _ _ _ _ _ _ _ _ _ _ _ _ _ _ _ _ _ _ _ _ _ _ _ _ _ _ _ _ _ _ _ _ _ _ _ _ _ _ _ _ _ _ _ _ _ _ rfl
              · by_cases hl : logTerm = 0
                · have hbi : (index == 0) = false := by simp [hi]
                  have hbl : (logTerm == 0) = true := by simp [hl]
                  have HF := Lib.hid (show kindF 3 true index logTerm term c = false by unfold kindF; rw [if_neg (by omega), if_pos rfl, decide_eq_false hi, decide_eq_true hl]; rfl)
                  clear hi hl
                  rw [HF.out] at HK
                  go_wp2_with fail
                  exact HK.out _ _ _ _ _ _ _ _ _ _ _ _ _ _ _ _ _ _ _ _ _ _ _ _ _ _ _ _ _ _ _ _ _ _ _ _ _ _ _ _ _ _ _ _ _ _ _ _ _ _ _ rfl
                · by_cases ht : logTerm ≤ term
                  · have hbi : (index == 0) = false := by simp [hi]
                    have hbl : (logTerm == 0) = false := by simp [hl]
                    have hdt : decide (logTerm ≤ term) = true := decide_eq_true ht
                    have HF := Lib.hid (show kindF 3 true index logTerm term c = true by unfold kindF; rw [if_neg (by omega), if_pos rfl, decide_eq_false hi, decide_eq_false hl, hdt]; rfl)
                    clear hi hl
                    clear ht
                    rw [HF.out] at HK
                    go_wp2_with fail
                    exact HK.out _ _ _ _ _ _ _ _ _ _ _ _ _ _ _ _ _ _ _ _ _ _ _ _ _ _ _ _ _ _ _ _ _ _ _ _ _ _ _ _ _ _ _ _ _ _ _ _ _ _ _ rfl
                  · have hbi : (index == 0) = false := by simp [hi]
                    have hbl : (logTerm == 0) = false := by simp [hl]
                    have hdt : decide (logTerm ≤ term) = false := decide_eq_false ht
                    have HF := Lib.hid (show kindF 3 true index logTerm term c = false by unfold kindF; rw [if_neg (by omega), if_pos rfl, decide_eq_false hi, decide_eq_false hl, hdt]; rfl)
                    clear hi hl
                    clear ht
                    rw [HF.out] at HK
                    go_wp2_with fail
                    exact HK.out _ _ _ _ _ _ _ _ _ _ _ _ _ _ _ _ _ _ _ _ _ _ _ _ _ _ _ _ _ _ _ _ _ _ _ _ _ _ _ _ _ _ _ _ _ _ _ _ _ _ _ rfl
          · by_cases hk5 : kind = 5
            · subst hk5
              have hc3 : w.cell? ⟨p, 3, none⟩ = some (.int .i64 term) := cell_blk HB.out 3
              have hc4 : w.cell? ⟨p, 4, none⟩ = some (.int .i64 index) := cell_blk HB.out 4
              have hc5 : w.cell? ⟨p, 5, none⟩ = some (.int .i64 logTerm) := cell_blk HB.out 5
              have hc11 : w.cell? ⟨p, 11, none⟩ = some (.slice Av nv cv) := cell_blk HB.out 11
              cases h
              · have HF := Lib.hid (show kindF 5 false index logTerm term c = false by unfold kindF; rfl)
                rw [HF.out] at HK
                go_wp2_with fail
                exact HK.out _ _ _ _ _ _ _ _ _ _ _ _ _ _ _ _ _ _ _ _ _ _ _ _ _ _ _ _ _ _ _ _ _ _ _ _ _ _ _ _ _ _ _ _ _ _ _ _ _ _ _ rfl
              · by_cases h1 : 0 < index
                · have hd1 : decide (0 < index) = true := decide_eq_true h1
                  by_cases h2 : 0 < logTerm
                  · have hd2 : decide (0 < logTerm) = true := decide_eq_true h2
                    by_cases h3 : logTerm ≤ term
                    · have hd3 : decide (logTerm ≤ term) = true := decide_eq_true h3
                      cases c
                      · have HC : Hid (chkV = 100) := Lib.hid (HCV.out)
                        rw [HC.out] at HCK
                        go_wp2_with fail
                        refine HCK.out.mono ?_
                        rintro e wq ⟨rfl, rfl⟩
                        have HF := Lib.hid (show kindF 5 true index logTerm term false = false by unfold kindF; rw [if_neg (by omega), if_neg (by omega), if_pos rfl, hd1, hd2, hd3]; rfl)
                        rw [HF.out] at HK
                        go_wp2_with fail
                        exact HK.out _ _ _ _ _ _ _ _ _ _ _ _ _ _ _ _ _ _ _ _ _ _ _ _ _ _ _ _ _ _ _ _ _ _ _ _ _ _ _ _ _ _ _ _ _ _ _ _ _ _ _ rfl
                      · have HC : Hid (chkV = 0) := Lib.hid (HCV.out)
                        rw [HC.out] at HCK
                        go_wp2_with fail
                        refine HCK.out.mono ?_
                        rintro e wq ⟨rfl, rfl⟩
                        have HF := Lib.hid (show kindF 5 true index logTerm term true = true by unfold kindF; rw [if_neg (by omega), if_neg (by omega), if_pos rfl, hd1, hd2, hd3]; rfl)
                        rw [HF.out] at HK
                        go_wp2_with fail
                        exact HK.out _ _ _ _ _ _ _ _ _ _ _ _ _ _ _ _ _ _ _ _ _ _ _ _ _ _ _ _ _ _ _ _ _ _ _ _ _ _ _ _ _ _ _ _ _ _ _ _ _ _ _ rfl
                    · have hd3 : decide (logTerm ≤ term) = false := decide_eq_false h3
                      have HF := Lib.hid (show kindF 5 true index logTerm term c = false by unfold kindF; rw [if_neg (by omega), if_neg (by omega), if_pos rfl, hd1, hd2, hd3]; rfl)
                      rw [HF.out] at HK
                      go_wp2_with fail
                      exact HK.out _ _ _ _ _ _ _ _ _ _ _ _ _ _ _ _ _ _ _ _ _ _ _ _ _ _ _ _ _ _ _ _ _ _ _ _ _ _ _ _ _ _ _ _ _ _ _ _ _ _ _ rfl
                  · have hd2 : decide (0 < logTerm) = false := decide_eq_false h2
                    have HF := Lib.hid (show kindF 5 true index logTerm term c = false by unfold kindF; rw [if_neg (by omega), if_neg (by omega), if_pos rfl, hd1, hd2]; rfl)
                    rw [HF.out] at HK
                    go_wp2_with fail
                    exact HK.out _ _ _ _ _ _ _ _ _ _ _ _ _ _ _ _ _ _ _ _ _ _ _ _ _ _ _ _ _ _ _ _ _ _ _ _ _ _ _ _ _ _ _ _ _ _ _ _ _ _ _ rfl
                · have hd1 : decide (0 < index) = false := decide_eq_false h1
                  have HF := Lib.hid (show kindF 5 true index logTerm term c = false by unfold kindF; rw [if_neg (by omega), if_neg (by omega), if_pos rfl, hd1]; rfl)
                  rw [HF.out] at HK
                  go_wp2_with fail
                  exact HK.out _ _ _ _ _ _ _ _ _ _ _ _ _ _ _ _ _ _ _ _ _ _ _ _ _ _ _ _ _ _ _ _ _ _ _ _ _ _ _ _ _ _ _ _ _ _ _ _ _ _ _ rfl
            · have HF := Lib.hid (show kindF kind h index logTerm term c = false by unfold kindF; rw [if_neg (by omega), if_neg hk3, if_neg hk5])
              have HK3 := Lib.hid (show decide (kind = 3) = false from decide_eq_false hk3)
              have HK5 := Lib.hid (show decide (kind = 5) = false from decide_eq_false hk5)
              have hb1 : (kind == 1) = false := beq_eq_false_iff_ne.2 hk1
              have hb2 : (kind == 2) = false := beq_eq_false_iff_ne.2 hk2
              have hb3 : (kind == 3) = false := beq_eq_false_iff_ne.2 hk3
              have hb4 : (kind == 4) = false := beq_eq_false_iff_ne.2 hk4
              have hb5 : (kind == 5) = false := beq_eq_false_iff_ne.2 hk5
              have hb6 : (kind == 6) = false := beq_eq_false_iff_ne.2 hk6
              clear hk1 hk2 hk3 hk4 hk5 hk6
              rw [HF.out, HK3.out, HK5.out] at HK
              go_wp2_with fail
              exact HK.out _ _ _ _ _ _ _ _ _ _ _ _ _ _ _ _ _ _ _ _ _ _ _ _ _ _ _ _ _ _ _ _ _ _ _ _ _ _ _ _ _ _ _ _ _ _ _ _ _ _ _ rfl
set_option maxRecDepth 1000000 in
set_option maxHeartbeats 4000000 in
theorem chkC {K : Act → World → Prop} {Q : Exit → Act → World → Prop} {w : World} {c0 c2 c4 c5 c6 c7 c8 c9 c10 c11 c12 c13 c14 c15 c16 c17 c18 c19 c20 c21 c22 c23 c24 c25 c26 c27 c28 c29 c30 c31 c32 c33 c34 c35 c36 c37 c38 c39 c40 c41 c42 c43 c44 c45 c46 c47 c48 c49 c50 c51 c52 c53 c54 c55 c56 c57 c58 c59 c60 c61 c62 c63 c64 c65 c66 c67 c68 c69 c70 c71 c72 c73 c74 c75 c76 c77 c78 c79 c80 c81 c82 c83 c84 c85 c86 c87 c88 c89 c90 c91 c92 c93 c94 c95 c96 c97 c98 c99 c100 c101 c102 c103 c104 c105 c106 c107 c108 c109 c110 c111 c112 c113 c114 c115 c116 c117 c118 c119 c120 c121 c122 c123 c124 c125 c126 c127 c128 c129 c130 c131 c132 c133 c134 c135 c136 c137 c138 c139 c140 c141 c142 c143 c144 c145 c146 c147 c148 c149 c150 c151 c152 c153 c154 c155 c156 c157 c158 c159 c160 c161 c162 c163 c164 c165 c166 c167 c168 c169 c170 c171 c172 c173 c174 c175 c176 c177 c178 c179 c180 c181 c182 c183 c184 c185 c186 c187 c188 c189 : Value} (p : Nat) (kind fr to_ term index logTerm commit round : Int) (yes done : Bool) (Ae : Option Addr) (ne ce : Nat) (Av : Option Addr) (nv cv : Nat) (Ad : Option Addr) (nd cd : Nat)
    (HB : Hid (w.heap[p]? = some (.cells #[.int .i64 kind, .int .i64 fr, .int .i64 to_, .int .i64 term, .int .i64 index, .int .i64 logTerm, .int .i64 commit, .int .i64 round, .bool yes, .bool done, .slice Ae ne ce, .slice Av nv cv, .slice Ad nd cd] 26 (0, 0)))) (h : Bool)
    (hK : ∀ (u97 u98 u99 u100 u101 u102 u103 u104 u105 u106 u107 u108 u109 : Value) (wx : World), w = wx → K ⟨#[c0, .pointer (some ⟨p, 0, none⟩), c2, .bool (h && decide (ne ≤ 8) && decide (nd ≤ 512)), c4, c5, c6, c7, c8, c9, c10, c11, c12, c13, c14, c15, c16, c17, c18, c19, c20, c21, c22, c23, c24, c25, c26, c27, c28, c29, c30, c31, c32, c33, c34, c35, c36, c37, c38, c39, c40, c41, c42, c43, c44, c45, c46, c47, c48, c49, c50, c51, c52, c53, c54, c55, c56, c57, c58, c59, c60, c61, c62, c63, c64, c65, c66, c67, c68, c69, c70, c71, c72, c73, c74, c75, c76, c77, c78, c79, c80, c81, c82, c83, c84, c85, c86, c87, c88, c89, c90, c91, c92, c93, c94, c95, c96, u97, u98, u99, u100, u101, u102, u103, u104, u105, u106, u107, u108, u109, c110, c111, c112, c113, c114, c115, c116, c117, c118, c119, c120, c121, c122, c123, c124, c125, c126, c127, c128, c129, c130, c131, c132, c133, c134, c135, c136, c137, c138, c139, c140, c141, c142, c143, c144, c145, c146, c147, c148, c149, c150, c151, c152, c153, c154, c155, c156, c157, c158, c159, c160, c161, c162, c163, c164, c165, c166, c167, c168, c169, c170, c171, c172, c173, c174, c175, c176, c177, c178, c179, c180, c181, c182, c183, c184, c185, c186, c187, c188, c189], []⟩ wx) :
    Code.wp Try.prog ((Try.f42.body.bind (regionAt 15)).getD .skip) (Exit.then K Q) ⟨#[c0, .pointer (some ⟨p, 0, none⟩), c2, .bool h, c4, c5, c6, c7, c8, c9, c10, c11, c12, c13, c14, c15, c16, c17, c18, c19, c20, c21, c22, c23, c24, c25, c26, c27, c28, c29, c30, c31, c32, c33, c34, c35, c36, c37, c38, c39, c40, c41, c42, c43, c44, c45, c46, c47, c48, c49, c50, c51, c52, c53, c54, c55, c56, c57, c58, c59, c60, c61, c62, c63, c64, c65, c66, c67, c68, c69, c70, c71, c72, c73, c74, c75, c76, c77, c78, c79, c80, c81, c82, c83, c84, c85, c86, c87, c88, c89, c90, c91, c92, c93, c94, c95, c96, c97, c98, c99, c100, c101, c102, c103, c104, c105, c106, c107, c108, c109, c110, c111, c112, c113, c114, c115, c116, c117, c118, c119, c120, c121, c122, c123, c124, c125, c126, c127, c128, c129, c130, c131, c132, c133, c134, c135, c136, c137, c138, c139, c140, c141, c142, c143, c144, c145, c146, c147, c148, c149, c150, c151, c152, c153, c154, c155, c156, c157, c158, c159, c160, c161, c162, c163, c164, c165, c166, c167, c168, c169, c170, c171, c172, c173, c174, c175, c176, c177, c178, c179, c180, c181, c182, c183, c184, c185, c186, c187, c188, c189], []⟩ w := by
  conv => arg 2; whnf
  have hc10 : w.cell? ⟨p, 10, none⟩ = some (.slice Ae ne ce) := cell_blk HB.out 10
  have hc12 : w.cell? ⟨p, 12, none⟩ = some (.slice Ad nd cd) := cell_blk HB.out 12
  have HK := Lib.hid hK
  clear hK
  cases h
  · have HF := Lib.hid (show (false && decide (ne ≤ 8) && decide (nd ≤ 512)) = false by rfl)
    rw [HF.out] at HK
    go_wp2_with fail
    exact HK.out _ _ _ _ _ _ _ _ _ _ _ _ _ _ rfl
  · by_cases h1 : ne ≤ 8
    · by_cases h2 : nd ≤ 512
      · have HF := Lib.hid (show (true && decide (ne ≤ 8) && decide (nd ≤ 512)) = true by rw [decide_eq_true h1, decide_eq_true h2]; rfl)
        rw [HF.out] at HK
        have hd2 : decide ((nd : Int) ≤ 512) = true := decide_eq_true (by omega)
        go_wp2_with fail
        exact HK.out _ _ _ _ _ _ _ _ _ _ _ _ _ _ rfl
      · have HF := Lib.hid (show (true && decide (ne ≤ 8) && decide (nd ≤ 512)) = false by rw [decide_eq_true h1, decide_eq_false h2]; rfl)
        rw [HF.out] at HK
        have hd2 : decide ((nd : Int) ≤ 512) = false := decide_eq_false (by omega)
        clear h2
        go_wp2_with fail
        exact HK.out _ _ _ _ _ _ _ _ _ _ _ _ _ _ rfl
    · have HF := Lib.hid (show (true && decide (ne ≤ 8) && decide (nd ≤ 512)) = false by rw [decide_eq_false h1]; rfl)
      rw [HF.out] at HK
      have hd1 : decide ((ne : Int) ≤ 8) = false := decide_eq_false (by omega)
      clear h1
      go_wp2_with fail
      exact HK.out _ _ _ _ _ _ _ _ _ _ _ _ _ _ rfl
set_option maxRecDepth 1000000 in
set_option maxHeartbeats 4000000 in
theorem chkD {K : Act → World → Prop} {Q : Exit → Act → World → Prop} {w : World} {c0 c2 c7 c8 c9 c10 c11 c12 c13 c14 c15 c16 c17 c18 c19 c20 c21 c22 c23 c24 c25 c26 c27 c28 c29 c30 c31 c32 c33 c34 c35 c36 c37 c38 c39 c40 c41 c42 c43 c44 c45 c46 c47 c48 c49 c50 c51 c52 c53 c54 c55 c56 c57 c58 c59 c60 c61 c62 c63 c64 c65 c66 c67 c68 c69 c70 c71 c72 c73 c74 c75 c76 c77 c78 c79 c80 c81 c82 c83 c84 c85 c86 c87 c88 c89 c90 c91 c92 c93 c94 c95 c96 c97 c98 c99 c100 c101 c102 c103 c104 c105 c106 c107 c108 c109 c110 c111 c112 c113 c114 c115 c116 c117 c118 c119 c120 c121 c122 c123 c124 c125 c126 c127 c128 c129 c130 c131 c132 c133 c134 c135 c136 c137 c138 c139 c140 c141 c142 c143 c144 c145 c146 c147 c148 c149 c150 c151 c152 c153 c154 c155 c156 c157 c158 c159 c160 c161 c162 c163 c164 c165 c166 c167 c168 c169 c170 c171 c172 c173 c174 c175 c176 c177 c178 c179 c180 c181 c182 c183 c184 c185 c186 c187 c188 c189 : Value} (p : Nat) (kind fr to_ term index logTerm commit round : Int) (yes done : Bool) (Ae : Option Addr) (ne ce : Nat) (Av : Option Addr) (nv cv : Nat) (Ad : Option Addr) (nd cd : Nat)
    (HB : Hid (w.heap[p]? = some (.cells #[.int .i64 kind, .int .i64 fr, .int .i64 to_, .int .i64 term, .int .i64 index, .int .i64 logTerm, .int .i64 commit, .int .i64 round, .bool yes, .bool done, .slice Ae ne ce, .slice Av nv cv, .slice Ad nd cd] 26 (0, 0)))) (h a b : Bool)
    (hK : ∀ (u110 u111 u112 u113 u114 u115 u116 u117 u118 u119 u120 u121 u122 u123 u124 u125 u126 u127 u128 u129 u130 u131 u132 u133 u134 u135 u136 u137 : Value) (wx : World), w = wx → K ⟨#[c0, .pointer (some ⟨p, 0, none⟩), c2, .bool (h && (a || decide (ne = 0)) && (b || decide (nv = 0)) && (b || decide (nd = 0))), .bool a, .bool b, .bool b, c7, c8, c9, c10, c11, c12, c13, c14, c15, c16, c17, c18, c19, c20, c21, c22, c23, c24, c25, c26, c27, c28, c29, c30, c31, c32, c33, c34, c35, c36, c37, c38, c39, c40, c41, c42, c43, c44, c45, c46, c47, c48, c49, c50, c51, c52, c53, c54, c55, c56, c57, c58, c59, c60, c61, c62, c63, c64, c65, c66, c67, c68, c69, c70, c71, c72, c73, c74, c75, c76, c77, c78, c79, c80, c81, c82, c83, c84, c85, c86, c87, c88, c89, c90, c91, c92, c93, c94, c95, c96, c97, c98, c99, c100, c101, c102, c103, c104, c105, c106, c107, c108, c109, u110, u111, u112, u113, u114, u115, u116, u117, u118, u119, u120, u121, u122, u123, u124, u125, u126, u127, u128, u129, u130, u131, u132, u133, u134, u135, u136, u137, c138, c139, c140, c141, c142, c143, c144, c145, c146, c147, c148, c149, c150, c151, c152, c153, c154, c155, c156, c157, c158, c159, c160, c161, c162, c163, c164, c165, c166, c167, c168, c169, c170, c171, c172, c173, c174, c175, c176, c177, c178, c179, c180, c181, c182, c183, c184, c185, c186, c187, c188, c189], []⟩ wx) :
    Code.wp Try.prog ((Try.f42.body.bind (regionAt 16)).getD .skip) (Exit.then K Q) ⟨#[c0, .pointer (some ⟨p, 0, none⟩), c2, .bool h, .bool a, .bool b, .bool b, c7, c8, c9, c10, c11, c12, c13, c14, c15, c16, c17, c18, c19, c20, c21, c22, c23, c24, c25, c26, c27, c28, c29, c30, c31, c32, c33, c34, c35, c36, c37, c38, c39, c40, c41, c42, c43, c44, c45, c46, c47, c48, c49, c50, c51, c52, c53, c54, c55, c56, c57, c58, c59, c60, c61, c62, c63, c64, c65, c66, c67, c68, c69, c70, c71, c72, c73, c74, c75, c76, c77, c78, c79, c80, c81, c82, c83, c84, c85, c86, c87, c88, c89, c90, c91, c92, c93, c94, c95, c96, c97, c98, c99, c100, c101, c102, c103, c104, c105, c106, c107, c108, c109, c110, c111, c112, c113, c114, c115, c116, c117, c118, c119, c120, c121, c122, c123, c124, c125, c126, c127, c128, c129, c130, c131, c132, c133, c134, c135, c136, c137, c138, c139, c140, c141, c142, c143, c144, c145, c146, c147, c148, c149, c150, c151, c152, c153, c154, c155, c156, c157, c158, c159, c160, c161, c162, c163, c164, c165, c166, c167, c168, c169, c170, c171, c172, c173, c174, c175, c176, c177, c178, c179, c180, c181, c182, c183, c184, c185, c186, c187, c188, c189], []⟩ w := by
  conv => arg 2; whnf
  have hc10 : w.cell? ⟨p, 10, none⟩ = some (.slice Ae ne ce) := cell_blk HB.out 10
  have hc11 : w.cell? ⟨p, 11, none⟩ = some (.slice Av nv cv) := cell_blk HB.out 11
  have hc12 : w.cell? ⟨p, 12, none⟩ = some (.slice Ad nd cd) := cell_blk HB.out 12
  have HK := Lib.hid hK
  clear hK
  cases h
  · have HF := Lib.hid (show (false && (a || decide (ne = 0)) && (b || decide (nv = 0)) && (b || decide (nd = 0))) = false by simp)
    rw [HF.out] at HK
    go_wp2_with fail
    exact HK.out _ _ _ _ _ _ _ _ _ _ _ _ _ _ _ _ _ _ _ _ _ _ _ _ _ _ _ _ _ rfl
  · cases a
    · by_cases he : ne = 0
      · cases b
        · by_cases hv : nv = 0
          · by_cases hd : nd = 0
            · have hbne : ((ne : Int) == 0) = true := beq_iff_eq.2 (by omega)
              have hbnv : ((nv : Int) == 0) = true := beq_iff_eq.2 (by omega)
              have hbnd : ((nd : Int) == 0) = true := beq_iff_eq.2 (by omega)
              have HF := Lib.hid (show (true && (false || decide (ne = 0)) && (false || decide (nv = 0)) && (false || decide (nd = 0))) = true by rw [decide_eq_true he, decide_eq_true hv, decide_eq_true hd]; rfl)
              rw [HF.out] at HK
              clear hv hd
              go_wp2_with fail
              exact HK.out _ _ _ _ _ _ _ _ _ _ _ _ _ _ _ _ _ _ _ _ _ _ _ _ _ _ _ _ _ rfl
            · have hbne : ((ne : Int) == 0) = true := beq_iff_eq.2 (by omega)
              have hbnv : ((nv : Int) == 0) = true := beq_iff_eq.2 (by omega)
              have hbnd : ((nd : Int) == 0) = false := beq_eq_false_iff_ne.2 (by omega)
              have HF := Lib.hid (show (true && (false || decide (ne = 0)) && (false || decide (nv = 0)) && (false || decide (nd = 0))) = false by rw [decide_eq_true he, decide_eq_true hv, decide_eq_false hd]; rfl)
              rw [HF.out] at HK
              clear hv hd
              go_wp2_with fail
              exact HK.out _ _ _ _ _ _ _ _ _ _ _ _ _ _ _ _ _ _ _ _ _ _ _ _ _ _ _ _ _ rfl
          · have hbne : ((ne : Int) == 0) = true := beq_iff_eq.2 (by omega)
            have hbnv : ((nv : Int) == 0) = false := beq_eq_false_iff_ne.2 (by omega)
            have HF := Lib.hid (show (true && (false || decide (ne = 0)) && (false || decide (nv = 0)) && (false || decide (nd = 0))) = false by rw [decide_eq_true he, decide_eq_false hv]; rfl)
            rw [HF.out] at HK
            clear hv
            go_wp2_with fail
            exact HK.out _ _ _ _ _ _ _ _ _ _ _ _ _ _ _ _ _ _ _ _ _ _ _ _ _ _ _ _ _ rfl
        · have hbne : ((ne : Int) == 0) = true := beq_iff_eq.2 (by omega)
          have HF := Lib.hid (show (true && (false || decide (ne = 0)) && (true || decide (nv = 0)) && (true || decide (nd = 0))) = true by rw [decide_eq_true he]; rfl)
          rw [HF.out] at HK
          go_wp2_with fail
          exact HK.out _ _ _ _ _ _ _ _ _ _ _ _ _ _ _ _ _ _ _ _ _ _ _ _ _ _ _ _ _ rfl
      · have HF := Lib.hid (show (true && (false || decide (ne = 0)) && (b || decide (nv = 0)) && (b || decide (nd = 0))) = false by rw [decide_eq_false he]; rfl)
        rw [HF.out] at HK
        have hbne : ((ne : Int) == 0) = false := beq_eq_false_iff_ne.2 (by omega)
        clear he
        go_wp2_with fail
        exact HK.out _ _ _ _ _ _ _ _ _ _ _ _ _ _ _ _ _ _ _ _ _ _ _ _ _ _ _ _ _ rfl
    · cases b
      · by_cases hv : nv = 0
        · by_cases hd : nd = 0
          · have hbnv : ((nv : Int) == 0) = true := beq_iff_eq.2 (by omega)
            have hbnd : ((nd : Int) == 0) = true := beq_iff_eq.2 (by omega)
            have HF := Lib.hid (show (true && (true || decide (ne = 0)) && (false || decide (nv = 0)) && (false || decide (nd = 0))) = true by rw [decide_eq_true hv, decide_eq_true hd]; rfl)
            rw [HF.out] at HK
            clear hv hd
            go_wp2_with fail
            exact HK.out _ _ _ _ _ _ _ _ _ _ _ _ _ _ _ _ _ _ _ _ _ _ _ _ _ _ _ _ _ rfl
          · have hbnv : ((nv : Int) == 0) = true := beq_iff_eq.2 (by omega)
            have hbnd : ((nd : Int) == 0) = false := beq_eq_false_iff_ne.2 (by omega)
            have HF := Lib.hid (show (true && (true || decide (ne = 0)) && (false || decide (nv = 0)) && (false || decide (nd = 0))) = false by rw [decide_eq_true hv, decide_eq_false hd]; rfl)
            rw [HF.out] at HK
            clear hv hd
            go_wp2_with fail
            exact HK.out _ _ _ _ _ _ _ _ _ _ _ _ _ _ _ _ _ _ _ _ _ _ _ _ _ _ _ _ _ rfl
        · have hbnv : ((nv : Int) == 0) = false := beq_eq_false_iff_ne.2 (by omega)
          have HF := Lib.hid (show (true && (true || decide (ne = 0)) && (false || decide (nv = 0)) && (false || decide (nd = 0))) = false by rw [decide_eq_false hv]; rfl)
          rw [HF.out] at HK
          clear hv
          go_wp2_with fail
          exact HK.out _ _ _ _ _ _ _ _ _ _ _ _ _ _ _ _ _ _ _ _ _ _ _ _ _ _ _ _ _ rfl
      · have HF := Lib.hid (show (true && (true || decide (ne = 0)) && (true || decide (nv = 0)) && (true || decide (nd = 0))) = true by rfl)
        rw [HF.out] at HK
        go_wp2_with fail
        exact HK.out _ _ _ _ _ _ _ _ _ _ _ _ _ _ _ _ _ _ _ _ _ _ _ _ _ _ _ _ _ rfl
/-- An entry's part, by its fields. -/
def entF (T i t ei et : Int) (nd : Nat) : Bool := decide (ei = i + 1) && inB ei && decide (max t 1 ≤ et) && decide (et ≤ T) && decide (nd ≤ 4096)
set_option maxRecDepth 1000000 in
set_option maxHeartbeats 4000000 in
theorem chkP {K : Act → World → Prop} {Q : Exit → Act → World → Prop} {w : World} {c0 c2 c4 c5 c6 c9 c11 c12 c13 c14 c15 c16 c17 c18 c19 c20 c21 c22 c23 c24 c25 c26 c27 c28 c29 c30 c31 c32 c33 c34 c35 c36 c37 c38 c39 c40 c41 c42 c43 c44 c45 c46 c47 c48 c49 c50 c51 c52 c53 c54 c55 c56 c57 c58 c59 c60 c61 c62 c63 c64 c65 c66 c67 c68 c69 c70 c71 c72 c73 c74 c75 c76 c77 c78 c79 c80 c81 c82 c83 c84 c85 c86 c87 c88 c89 c90 c91 c92 c93 c94 c95 c96 c97 c98 c99 c100 c101 c102 c103 c104 c105 c106 c107 c108 c109 c110 c111 c112 c113 c114 c115 c116 c117 c118 c119 c120 c121 c122 c123 c124 c125 c126 c127 c128 c129 c130 c131 c132 c133 c134 c135 c136 c137 c138 c139 c140 c141 c142 c143 c144 c145 c146 c147 c148 c149 c150 c151 c152 c153 c154 c155 c156 c157 c158 c159 c160 c161 c162 c163 c164 c165 c166 c167 c168 c169 c170 c171 c172 c173 c174 c175 c176 c177 c178 c179 c180 c181 c182 c183 c184 c185 c186 c187 c188 c189 : Value} (p : Nat) (kind fr to_ term index logTerm commit round : Int) (yes done : Bool) (Ae : Option Addr) (ne ce : Nat) (Av : Option Addr) (nv cv : Nat) (Ad : Option Addr) (nd cd : Nat)
    (HB : Hid (w.heap[p]? = some (.cells #[.int .i64 kind, .int .i64 fr, .int .i64 to_, .int .i64 term, .int .i64 index, .int .i64 logTerm, .int .i64 commit, .int .i64 round, .bool yes, .bool done, .slice Ae ne ce, .slice Av nv cv, .slice Ad nd cd] 26 (0, 0)))) (h : Bool) (i t ei et : Int) (q : Nat) (A2 : Option Addr) (n2 c2' : Nat)
    (HQ : Hid (w.heap[q]? = some (.cells #[.int .i64 ei, .int .i64 et, .slice A2 n2 c2'] 71 (0, 0)))) (HE : Hid (I64 ei)) (HI : Hid (h = true → 0 ≤ i ∧ i ≤ 1099511627776))
    (hK : ∀ (u149 u150 u151 u152 u153 u154 u155 u156 u157 u158 u159 u160 u161 u162 u163 u164 u165 u166 u167 u168 u169 u170 u171 u172 u173 u174 u175 u176 u177 u178 u179 u180 u181 u182 : Value) (wx : World), Ext w wx → K ⟨#[c0, .pointer (some ⟨p, 0, none⟩), c2, .bool (h && entF term i t ei et n2), c4, c5, c6, .int .i64 i, .int .i64 t, c9, .pointer (some ⟨q, 0, none⟩), c11, c12, c13, c14, c15, c16, c17, c18, c19, c20, c21, c22, c23, c24, c25, c26, c27, c28, c29, c30, c31, c32, c33, c34, c35, c36, c37, c38, c39, c40, c41, c42, c43, c44, c45, c46, c47, c48, c49, c50, c51, c52, c53, c54, c55, c56, c57, c58, c59, c60, c61, c62, c63, c64, c65, c66, c67, c68, c69, c70, c71, c72, c73, c74, c75, c76, c77, c78, c79, c80, c81, c82, c83, c84, c85, c86, c87, c88, c89, c90, c91, c92, c93, c94, c95, c96, c97, c98, c99, c100, c101, c102, c103, c104, c105, c106, c107, c108, c109, c110, c111, c112, c113, c114, c115, c116, c117, c118, c119, c120, c121, c122, c123, c124, c125, c126, c127, c128, c129, c130, c131, c132, c133, c134, c135, c136, c137, c138, c139, c140, c141, c142, c143, c144, c145, c146, c147, c148, u149, u150, u151, u152, u153, u154, u155, u156, u157, u158, u159, u160, u161, u162, u163, u164, u165, u166, u167, u168, u169, u170, u171, u172, u173, u174, u175, u176, u177, u178, u179, u180, u181, u182, c183, c184, c185, c186, c187, c188, c189], []⟩ wx) :
    Code.wp Try.prog ((Try.f42.body.bind (regionAt 21)).getD .skip) (Exit.then K Q) ⟨#[c0, .pointer (some ⟨p, 0, none⟩), c2, .bool h, c4, c5, c6, .int .i64 i, .int .i64 t, c9, .pointer (some ⟨q, 0, none⟩), c11, c12, c13, c14, c15, c16, c17, c18, c19, c20, c21, c22, c23, c24, c25, c26, c27, c28, c29, c30, c31, c32, c33, c34, c35, c36, c37, c38, c39, c40, c41, c42, c43, c44, c45, c46, c47, c48, c49, c50, c51, c52, c53, c54, c55, c56, c57, c58, c59, c60, c61, c62, c63, c64, c65, c66, c67, c68, c69, c70, c71, c72, c73, c74, c75, c76, c77, c78, c79, c80, c81, c82, c83, c84, c85, c86, c87, c88, c89, c90, c91, c92, c93, c94, c95, c96, c97, c98, c99, c100, c101, c102, c103, c104, c105, c106, c107, c108, c109, c110, c111, c112, c113, c114, c115, c116, c117, c118, c119, c120, c121, c122, c123, c124, c125, c126, c127, c128, c129, c130, c131, c132, c133, c134, c135, c136, c137, c138, c139, c140, c141, c142, c143, c144, c145, c146, c147, c148, c149, c150, c151, c152, c153, c154, c155, c156, c157, c158, c159, c160, c161, c162, c163, c164, c165, c166, c167, c168, c169, c170, c171, c172, c173, c174, c175, c176, c177, c178, c179, c180, c181, c182, c183, c184, c185, c186, c187, c188, c189], []⟩ w := by
  conv => arg 2; whnf
  have hc3 : w.cell? ⟨p, 3, none⟩ = some (.int .i64 term) := cell_blk HB.out 3
  have hq0 := cell_blk HQ.out 0
  have hq1 := cell_blk HQ.out 1
  have hq2 := cell_blk HQ.out 2
  simp at hq0 hq1 hq2
  have HK := Lib.hid hK
  clear hK
  cases h
  · have HF := Lib.hid (show (false && entF term i t ei et n2) = false by rfl)
    rw [HF.out] at HK
    go_wp2_with fail
    all_goals exact HK.out _ _ _ _ _ _ _ _ _ _ _ _ _ _ _ _ _ _ _ _ _ _ _ _ _ _ _ _ _ _ _ _ _ _ _ (Ext.refl _)
  · obtain ⟨hi0, hi1⟩ := HI.out rfl
    by_cases h1 : ei = i + 1
    · have hb1 : (ei == i + 1) = true := beq_iff_eq.2 h1
      have h1d : decide (ei = i + 1) = true := decide_eq_true h1
      clear h1
      cases h2 : inB ei
      · have HW := Lib.hid (show withinB [ei] = false by unfold withinB; simp [h2])
        go_wp2_with fail
        refine (within_calls _ _ _ [ei] (Rs.one_int _ _ _ rfl _ HE.out)).mono ?_
        rintro e w2 ⟨rfl, hw⟩
        have HX2 := Lib.hid (show Ext w w2 from hw ▸ (Ext.refl w).alloc _)
        clear hw
        rw [HW.out]
        have hc3' : w2.cell? ⟨p, 3, none⟩ = some (.int .i64 term) := cell_blk (blk_ext HB.out HX2.out) 3
        have hq1' := cell_blk (blk_ext HQ.out HX2.out) 1
        have hq2' := cell_blk (blk_ext HQ.out HX2.out) 2
        simp at hq1' hq2'
        have HF := Lib.hid (show (true && entF term i t ei et n2) = false by unfold entF; rw [h1d, h2]; rfl)
        rw [HF.out] at HK
        clear h1d h2
        go_wp2_with fail
        all_goals exact HK.out _ _ _ _ _ _ _ _ _ _ _ _ _ _ _ _ _ _ _ _ _ _ _ _ _ _ _ _ _ _ _ _ _ _ _ HX2.out
      · have HW := Lib.hid (show withinB [ei] = true by unfold withinB; simp [h2])
        go_wp2_with fail
        refine (within_calls _ _ _ [ei] (Rs.one_int _ _ _ rfl _ HE.out)).mono ?_
        rintro e w2 ⟨rfl, hw⟩
        have HX2 := Lib.hid (show Ext w w2 from hw ▸ (Ext.refl w).alloc _)
        clear hw
        rw [HW.out]
        have hc3' : w2.cell? ⟨p, 3, none⟩ = some (.int .i64 term) := cell_blk (blk_ext HB.out HX2.out) 3
        have hq1' := cell_blk (blk_ext HQ.out HX2.out) 1
        have hq2' := cell_blk (blk_ext HQ.out HX2.out) 2
        simp at hq1' hq2'
        by_cases h3 : max t 1 ≤ et
        · by_cases h4 : et ≤ term
          · by_cases h5 : n2 ≤ 4096
            · have HF := Lib.hid (show (true && entF term i t ei et n2) = true by unfold entF; rw [h1d, h2, decide_eq_true h3, decide_eq_true h4, decide_eq_true h5]; rfl)
              rw [HF.out] at HK
              have h3a : 1 ≤ et := by omega
              have h3b : t ≤ et := by omega
              have hd4 : decide (et ≤ term) = true := decide_eq_true h4
              have hd5 : decide ((n2 : Int) ≤ 4096) = true := decide_eq_true (by omega)
              clear h1d h2 h3 h4
              go_wp2_with fail
              all_goals exact HK.out _ _ _ _ _ _ _ _ _ _ _ _ _ _ _ _ _ _ _ _ _ _ _ _ _ _ _ _ _ _ _ _ _ _ _ HX2.out
            · have HF := Lib.hid (show (true && entF term i t ei et n2) = false by unfold entF; rw [h1d, h2, decide_eq_true h3, decide_eq_true h4, decide_eq_false h5]; rfl)
              rw [HF.out] at HK
              have h3a : 1 ≤ et := by omega
              have h3b : t ≤ et := by omega
              have hd4 : decide (et ≤ term) = true := decide_eq_true h4
              have hd5 : decide ((n2 : Int) ≤ 4096) = false := decide_eq_false (by omega)
              clear h1d h2 h3 h4 h5
              go_wp2_with fail
              all_goals exact HK.out _ _ _ _ _ _ _ _ _ _ _ _ _ _ _ _ _ _ _ _ _ _ _ _ _ _ _ _ _ _ _ _ _ _ _ HX2.out
          · have HF := Lib.hid (show (true && entF term i t ei et n2) = false by unfold entF; rw [h1d, h2, decide_eq_true h3, decide_eq_false h4]; rfl)
            rw [HF.out] at HK
            have h3a : 1 ≤ et := by omega
            have h3b : t ≤ et := by omega
            have hd4 : decide (et ≤ term) = false := decide_eq_false h4
            clear h1d h2 h3 h4
            go_wp2_with fail
            all_goals exact HK.out _ _ _ _ _ _ _ _ _ _ _ _ _ _ _ _ _ _ _ _ _ _ _ _ _ _ _ _ _ _ _ _ _ _ _ HX2.out
        · have HF := Lib.hid (show (true && entF term i t ei et n2) = false by unfold entF; rw [h1d, h2, decide_eq_false h3]; rfl)
          rw [HF.out] at HK
          clear h1d h2
          by_cases ht : t < 1
          · have h3a : et < 1 := by omega
            clear h3
            go_wp2_with fail
            all_goals exact HK.out _ _ _ _ _ _ _ _ _ _ _ _ _ _ _ _ _ _ _ _ _ _ _ _ _ _ _ _ _ _ _ _ _ _ _ HX2.out
          · have h3a : et < t := by omega
            clear h3
            go_wp2_with fail
            all_goals exact HK.out _ _ _ _ _ _ _ _ _ _ _ _ _ _ _ _ _ _ _ _ _ _ _ _ _ _ _ _ _ _ _ _ _ _ _ HX2.out
    · have hb1 : (ei == i + 1) = false := beq_eq_false_iff_ne.2 h1
      have HF := Lib.hid (show (true && entF term i t ei et n2) = false by unfold entF; rw [decide_eq_false h1]; rfl)
      rw [HF.out] at HK
      clear h1
      go_wp2_with fail
      all_goals exact HK.out _ _ _ _ _ _ _ _ _ _ _ _ _ _ _ _ _ _ _ _ _ _ _ _ _ _ _ _ _ _ _ _ _ _ _ (Ext.refl _)
end Go.Proofs.Ytfflcnlgkbgbhaa
