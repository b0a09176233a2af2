/-
  Texts of this claim, put together: MsgRises, MsgRChk.
-/
import Derived.Test.YtfflcnlgkbgbhaaZ6
set_option linter.unusedVariables false
set_option linter.unusedSimpArgs false
namespace Go.Proofs.Ytfflcnlgkbgbhaa
open Go.RowKit

def goodB (n lo : Int) : Bool := decide (lo ≤ n) && decide (n ≤ 1099511627776)
theorem good_calls (w : World) (n lo : Int) :
    Calls Try.prog 70 #[.int .i64 n, .int .i64 lo] w fun e w' => e = .returned (.bool (goodB n lo)) ∧ w = w' := by
  by_cases h0 : lo ≤ n
  · by_cases h7 : n ≤ 1099511627776
    · have HN := Lib.hid (show goodB n lo = true by unfold goodB; rw [decide_eq_true h0, decide_eq_true h7]; rfl)
      go_enter Try.func70, Try.ntmps70
      go_wp2
      go_ret
      exact ⟨bool_ret HN.out.symm, rfl⟩
    · have HN := Lib.hid (show goodB n lo = false by unfold goodB; rw [decide_eq_false h7, Bool.and_false])
      have hd : decide (n ≤ 1099511627776) = false := decide_eq_false h7
      go_enter Try.func70, Try.ntmps70
      go_wp2
      go_ret
      exact ⟨bool_ret HN.out.symm, rfl⟩
  · have HN := Lib.hid (show goodB n lo = false by unfold goodB; rw [decide_eq_false h0, Bool.false_and])
    have hd : decide (lo ≤ n) = false := decide_eq_false h0
    go_enter Try.func70, Try.ntmps70
    go_wp2
    go_ret
    exact ⟨bool_ret HN.out.symm, rfl⟩

theorem rise_wrap (ei index : Int) (k : Nat) (he : I64 ei) (h0 : 0 ≤ index) (h1 : index ≤ 1099511627776) (hk : k ≤ 140737488355328) : wrap64 (wrap64 (ei - 1) - (k : Int)) = index ↔ ei = index + k + 1 := by
  have := he.1
  have := he.2
  unfold wrap64
  omega
/-- May an entry stand there? -/
def riseF (index : Int) (k : Nat) (t ei et : Int) (nd : Nat) : Bool := decide (ei ≤ 1099511627776) && (decide (ei = index + k + 1) && (decide (1 ≤ et) && (decide (t ≤ et) && (decide (et ≤ 1099511627776) && decide (nd ≤ 4096)))))
def risesB (index : Int) : Nat → Int → List EntS → Bool
  | _, _, [] => true
  | k, t, e :: l => riseF index k t e.index e.term e.data.length && risesB index (k + 1) e.term l
set_option maxRecDepth 1000000 in
set_option maxHeartbeats 4000000 in
theorem riseP {K : Act → World → Prop} {Q : Exit → Act → World → Prop} {w : World} {c2 c3 c4 c5 c6 c9 c10 c11 c12 c13 c14 c15 c16 c17 c18 c19 c20 c21 c22 c23 c24 c25 c26 c27 c28 c29 c30 c31 c32 c33 c34 c35 c36 c37 c38 c39 c40 c41 c42 c43 c44 c45 c46 c47 c48 c49 c50 c51 c52 c53 c54 c55 c56 : Value} (index t ei et : Int) (k : Nat) (q : Nat) (A2 : Option Addr) (nd c2' : Nat)
    (HQ : Hid (w.heap[q]? = some (.cells #[.int .i64 ei, .int .i64 et, .slice A2 nd c2'] 71 (0, 0)))) (h1i : index ≤ 1099511627776) (HW : Hid (wrap64 (wrap64 (ei - 1) - (k : Int)) = index ↔ ei = index + k + 1))
    (hK : ∀ (b53 : Bool) (u16 u17 u18 u19 u20 u21 u22 u23 u24 u25 u26 u27 u28 u29 u30 u31 u32 u33 u34 u35 u36 u37 u38 u39 u40 u41 u42 u43 u44 u45 u46 u47 u48 u49 u50 u51 u52 : Value) (wx : World), b53 = (!riseF index k t ei et nd) → w = wx → K ⟨#[.int .i64 index, .int .i64 t, c2, c3, c4, c5, c6, .int .i64 (k : Int), .pointer (some ⟨q, 0, none⟩), c9, c10, c11, c12, c13, c14, c15, u16, u17, u18, u19, u20, u21, u22, u23, u24, u25, u26, u27, u28, u29, u30, u31, u32, u33, u34, u35, u36, u37, u38, u39, u40, u41, u42, u43, u44, u45, u46, u47, u48, u49, u50, u51, u52, .bool b53, c54, c55, c56], []⟩ wx) :
    Code.wp Try.prog ((Try.f71.body.bind (regionAt 4)).getD .skip) (Exit.then K Q) ⟨#[.int .i64 index, .int .i64 t, c2, c3, c4, c5, c6, .int .i64 (k : Int), .pointer (some ⟨q, 0, none⟩), c9, c10, c11, c12, c13, c14, c15, c16, c17, c18, c19, c20, c21, c22, c23, c24, c25, c26, c27, c28, c29, c30, c31, c32, c33, c34, c35, c36, c37, c38, c39, c40, c41, c42, c43, c44, c45, c46, c47, c48, c49, c50, c51, c52, c53, c54, c55, c56], []⟩ w := by
  conv => arg 2; whnf
  have hq0 := cell_blk HQ.out 0
  have hq1 := cell_blk HQ.out 1
  have hq2 := cell_blk HQ.out 2
  simp at hq0 hq1 hq2
  have HK := Lib.hid hK
  clear hK
  generalize hz : wrap64 (wrap64 (ei - 1) - (k : Int)) = z at HW
  by_cases hzi : z = index
  · have hzb : (z != index) = false := by simp [hzi]
    have HZ := Lib.hid hzi
    clear h1i hzi
    go_wp2_with fail
    all_goals
      refine HK.out _ _ _ _ _ _ _ _ _ _ _ _ _ _ _ _ _ _ _ _ _ _ _ _ _ _ _ _ _ _ _ _ _ _ _ _ _ _ _ ?_ rfl
      have hw := HW.out
      have hzi := HZ.out
      rw [Bool.eq_iff_iff]
      unfold riseF
      simp only [Bool.not_eq_true', Bool.or_eq_true, decide_eq_true_eq, Bool.and_eq_false_iff, decide_eq_false_iff_not, eq_self, true_iff]
      omega
  · have hzb : (z != index) = true := bne_iff_ne.2 hzi
    have HZ := Lib.hid hzi
    clear h1i hzi
    go_wp2_with fail
    all_goals
      refine HK.out _ _ _ _ _ _ _ _ _ _ _ _ _ _ _ _ _ _ _ _ _ _ _ _ _ _ _ _ _ _ _ _ _ _ _ _ _ _ _ ?_ rfl
      have hw := HW.out
      have hzi := HZ.out
      rw [Bool.eq_iff_iff]
      unfold riseF
      simp only [Bool.not_eq_true', Bool.or_eq_true, decide_eq_true_eq, Bool.and_eq_false_iff, decide_eq_false_iff_not, eq_self, true_iff]
      omega

set_option maxRecDepth 100000 in
set_option maxHeartbeats 2000000 in
theorem Rises_calls (w : World) (S : Nat → Prop) (v : Value) (es : List EntS) (index t0 : Int) (h0 : 0 ≤ index) (h1 : index ≤ 1099511627776) (hr : Rs kEnt w S v es) :
    Calls Try.prog 71 #[.int .i64 index, .int .i64 t0, v] w fun e w' => e = .returned (.bool (risesB index 0 t0 es)) ∧ Ext w w' := by
  have HR := Lib.hid hr.under
  obtain ⟨A, c, rfl, hl, hc, hz, _⟩ := hr
  go_enter Try.func71, Try.ntmps71
  go_wp2_with fail
  go_loopw [1, 11] (fun s1 i wr => ∃ (k : Nat) (t : Int), k ≤ es.length ∧ i = .int .i64 k ∧ s1 = .int .i64 t ∧ Hid (risesB index k t (es.drop k) = risesB index 0 t0 es) ∧ Hid (Ext w wr)) (fun _ i _ => es.length - (intOf i).toNat)
  case atStart => exact ⟨0, t0, Nat.zero_le _, rfl, rfl, Lib.hid rfl, Lib.hid (Ext.refl _)⟩
  case round =>
    obtain ⟨k, t, hk, rfl, rfl, HQ, HX⟩ := hrel
    by_cases hlt : k < es.length
    · obtain ⟨ad, Ad2, cd2, hA, hc0, hc1, hc2, _, hie, _⟩ := (HR.out.ext HX.out).shape.2.2.2.2.ent hlt
      subst hA
      have HIE := Lib.hid hie
      have hd := List.drop_eq_getElem_cons hlt
      have hq := HQ.out
      rw [hd, risesB] at hq
      have HQ' := Lib.hid hq
      clear hd hq hie HQ
      generalize es[k] = e at hc0 hc1 hc2 HIE HQ'
      obtain ⟨ei, et, ed⟩ := e
      dsimp only at hc0 hc1 hc2 HIE HQ'
      have HRW := Lib.hid (rise_wrap ei index k HIE.out h0 h1 (by omega))
      go_upto_region 4 with fail
      obtain ⟨wa, hwa⟩ : ∃ wa, wa = wr.alloc (.cells #[.int .i64 ei, .int .i64 et, .slice Ad2 ed.length cd2] 71) := ⟨_, rfl⟩
      have HQb := Lib.hid (show wa.heap[wr.heap.size]? = some (.cells #[.int .i64 ei, .int .i64 et, .slice Ad2 ed.length cd2] 71 (0, 0)) by rw [hwa]; exact heap_new wr _ rfl _)
      have HXa := Lib.hid (show Ext w wa by rw [hwa]; exact HX.out.alloc _)
      rw [← hwa]
      clear hwa hc0 hc1 hc2 HX
      refine riseP index t ei et k wr.heap.size Ad2 ed.length cd2 HQb h1 HRW ?_
      intros
      rename_i w5 hb5 hx
      subst hb5
      subst hx
      have hq1 := cell_blk HQb.out 1
      simp at hq1
      cases hb : riseF index k t ei et ed.length
      · have HF := Lib.hid (show risesB index 0 t0 es = false by rw [← HQ'.out, hb]; rfl)
        clear hb HQ'
        go_wp2_with fail
        go_ret
        exact ⟨bool_ret HF.out.symm, HXa.out⟩
      · have HQN := Lib.hid (show risesB index (k + 1) et (es.drop (k + 1)) = risesB index 0 t0 es by rw [← HQ'.out, hb]; rfl)
        clear hb HQ'
        go_wp2_with fail
        go_roundw
        case rel => exact ⟨k + 1, et, by omega, by go_num, rfl, HQN, HXa⟩
        case measure => simp [intOf]; omega
    · obtain rfl : k = es.length := by omega
      have hq := HQ.out
      rw [List.drop_length] at hq
      have HF := Lib.hid (show risesB index 0 t0 es = true by rw [← hq]; rfl)
      clear hlt hq HQ
      go_wp2_with fail
      go_ret
      exact ⟨bool_ret HF.out.symm, HX.out⟩
end Go.Proofs.Ytfflcnlgkbgbhaa
set_option linter.unusedVariables false
set_option linter.unusedSimpArgs false
namespace Go.Proofs.Ytfflcnlgkbgbhaa
open Go.RowKit

def headR (fr to_ term index logTerm commit round : Int) : Bool := goodB fr 0 && (decide (fr < 7) && (goodB to_ 0 && (decide (to_ < 7) && (decide (fr ≠ to_) && (goodB term 1 && (goodB index 0 && (goodB logTerm 0 && (goodB commit 0 && goodB round 0))))))))
theorem headR_eq (m : MsgS) : headR m.from_ m.to_ m.term m.index m.logTerm m.commit m.round = headB m := by
  rw [Bool.eq_iff_iff, headB_iff]
  unfold headR goodB
  simp only [Bool.and_eq_true, decide_eq_true_eq]
  omega
def allT (T : Int) (es : List EntS) : Bool := es.all fun e => decide (e.term ≤ T)
def chkR (m : MsgS) : Bool :=
  if m.kind = 1 ∨ m.kind = 2 ∨ m.kind = 4 ∨ m.kind = 6 then headB m && decide (m.entries.length = 0) && decide (m.voters.length = 0) && decide (m.data.length = 0)
  else if m.kind = 3 then (headB m && decide (m.entries.length ≤ 8) && decide (m.voters.length = 0) && decide (m.data.length = 0) && (decide (0 < m.index) == decide (0 < m.logTerm)) && decide (m.logTerm ≤ m.term) && risesB m.index 0 m.logTerm m.entries) && allT m.term m.entries
  else if m.kind = 5 then headB m && decide (m.entries.length = 0) && decide (m.data.length ≤ 512) && decide (0 < m.index) && decide (0 < m.logTerm) && decide (m.logTerm ≤ m.term) && chk m.voters
  else false
theorem ents_rises (T index : Int) (hT : T ≤ 1099511627776) (h0 : 0 ≤ index) : ∀ (es : List EntS) (k : Nat) (t : Int), entsB T (index + k) t es = (risesB index k t es && allT T es)
  | [], k, t => rfl
  | e :: es, k, t => by
    have ih := ents_rises T index hT h0 es (k + 1) e.term
    simp only [entsB, risesB, allT, List.all_cons]
    rw [entB_eq]
    cases h1 : entF T (index + k) t e.index e.term e.data.length
    · have h2 : (riseF index k t e.index e.term e.data.length && decide (e.term ≤ T)) = false := by
        cases h3 : (riseF index k t e.index e.term e.data.length && decide (e.term ≤ T))
        · rfl
        · have h5 : entF T (index + k) t e.index e.term e.data.length = true := by
            unfold riseF at h3
            unfold entF inB
            simp only [Bool.and_eq_true, decide_eq_true_eq] at h3 ⊢
            omega
          rw [h1] at h5
          exact h5.symm
      cases h3 : riseF index k t e.index e.term e.data.length
      · simp
      · rw [h3, Bool.true_and] at h2
        simp [h2]
    · have h2 : riseF index k t e.index e.term e.data.length = true ∧ e.term ≤ T ∧ e.index = index + k + 1 := by
        unfold entF inB at h1
        unfold riseF
        simp only [Bool.and_eq_true, decide_eq_true_eq] at h1 ⊢
        omega
      rw [h2.1, decide_eq_true h2.2.1, Bool.true_and, Bool.true_and, Bool.true_and]
      have h4 : index + (k : Int) + 1 = index + ((k + 1 : Nat) : Int) := by omega
      rw [h2.2.2, h4, ih]; rfl
theorem chkR_eq (m : MsgS) : chkR m = chkM m := by
  have hb := headB_iff (m := m)
  have hcast : ((m.entries.length = 0) ↔ m.entries = []) := List.length_eq_zero_iff
  unfold chkR chkM emptyB lenB kindB
  cases hh : headB m
  · split
    · simp
    · split
      · simp
      · split <;> simp
  · have hb' := hb.1 hh
    have he := ents_rises m.term m.index (by omega) (by omega) m.entries 0 m.logTerm
    simp only [Int.natCast_zero, Int.add_zero] at he
    split
    · rename_i hk
      rw [decide_eq_false (show ¬ m.kind = 3 by omega), decide_eq_false (show ¬ m.kind = 5 by omega)]
      rw [Bool.eq_iff_iff]
      simp only [Bool.and_eq_true, Bool.or_eq_true, decide_eq_true_eq, Bool.false_eq_true, false_or, true_and]
      constructor
      · rintro ⟨⟨h1, h2⟩, h3⟩
        rw [hcast.1 h1]
        exact ⟨⟨⟨⟨⟨by simp, by omega⟩, by simp⟩, h2⟩, h3⟩, rfl⟩
      · rintro ⟨⟨⟨⟨⟨h1, h2⟩, h3⟩, h4⟩, h5⟩, h6⟩
        exact ⟨⟨h3, h4⟩, h5⟩
    · split
      · rename_i hk
        rw [decide_eq_true hk, decide_eq_false (show ¬ m.kind = 5 by omega), he]
        rw [Bool.eq_iff_iff]
        simp only [Bool.and_eq_true, Bool.or_eq_true, decide_eq_true_eq, Bool.false_eq_true, false_or, true_and, true_or, beq_iff_eq, and_true, decide_eq_decide]
        constructor
        · rintro ⟨⟨⟨⟨⟨⟨h1, h2⟩, h3⟩, h4⟩, h5⟩, h6⟩, h7⟩
          exact ⟨⟨⟨⟨⟨⟨by omega, h5⟩, h1⟩, by omega⟩, h2⟩, h3⟩, h6, h7⟩
        · rintro ⟨⟨⟨⟨⟨⟨h1, h2⟩, h3⟩, h4⟩, h5⟩, h6⟩, h7, h8⟩
          exact ⟨⟨⟨⟨⟨⟨h3, h5⟩, h6⟩, by omega⟩, h2⟩, h7⟩, h8⟩
      · split
        · rename_i hk
          rw [decide_eq_false (show ¬ m.kind = 3 by omega), decide_eq_true hk]
          rw [Bool.eq_iff_iff]
          simp only [Bool.and_eq_true, Bool.or_eq_true, decide_eq_true_eq, Bool.false_eq_true, false_or, true_and, true_or, and_true]
          constructor
          · rintro ⟨⟨⟨⟨⟨h1, h2⟩, h3⟩, h4⟩, h5⟩, h6⟩
            rw [hcast.1 h1]
            exact ⟨⟨⟨⟨⟨⟨⟨h3, h4⟩, h5⟩, h6⟩, by simp⟩, h2⟩, by simp⟩, rfl⟩
          · rintro ⟨⟨⟨⟨⟨⟨⟨h3, h4⟩, h5⟩, h6⟩, h7⟩, h2⟩, h1⟩, h8⟩
            exact ⟨⟨⟨⟨⟨h1, h2⟩, h3⟩, h4⟩, h5⟩, h6⟩
        · rfl
set_option maxRecDepth 1000000 in
set_option maxHeartbeats 4000000 in
theorem rchkA {K : Act → World → Prop} {Q : Exit → Act → World → Prop} {w : World} {c0 c2 c3 c4 c5 c6 c7 c8 c9 c10 c11 c12 c13 c14 c15 c16 c17 c18 c19 c20 c21 c22 c23 c24 c25 c26 c27 c28 c29 c30 c31 c32 c33 c34 c35 c36 c37 c38 c39 c40 c41 c42 c43 c44 c45 c46 c47 c48 c49 c50 c51 c52 c53 c54 c55 c56 c57 c58 c59 c60 c61 c62 c63 c64 c65 c66 c67 c68 c69 c70 c71 c72 c73 c74 c75 c76 c77 c78 c79 c80 c81 c82 c83 c84 c85 c86 c87 c88 c89 c90 c91 c92 c93 c94 c95 c96 c97 c98 c99 c100 c101 c102 c103 c104 c105 c106 c107 c108 c109 c110 c111 c112 c113 c114 c115 c116 c117 c118 c119 c120 c121 c122 c123 c124 c125 c126 c127 c128 c129 c130 c131 c132 c133 c134 c135 c136 c137 c138 c139 c140 c141 c142 c143 c144 c145 c146 c147 c148 c149 c150 c151 c152 c153 c154 c155 c156 c157 c158 c159 c160 c161 c162 c163 c164 c165 c166 c167 c168 c169 c170 c171 c172 c173 c174 c175 c176 c177 c178 c179 c180 c181 c182 c183 : Value} (p : Nat) (kind fr to_ term index logTerm commit round : Int) (yes done : Bool) (Ae : Option Addr) (ne ce : Nat) (Av : Option Addr) (nv cv : Nat) (Ad : Option Addr) (nd cd : Nat)
    (HB : Hid (w.heap[p]? = some (.cells #[.int .i64 kind, .int .i64 fr, .int .i64 to_, .int .i64 term, .int .i64 index, .int .i64 logTerm, .int .i64 commit, .int .i64 round, .bool yes, .bool done, .slice Ae ne ce, .slice Av nv cv, .slice Ad nd cd] 26 (0, 0))))
    (hK : ∀ (u6 u7 u8 u9 u10 u11 u12 u13 u14 u15 u16 u17 u18 u19 u20 u21 u22 u23 u24 u25 u26 u27 u28 u29 u30 u31 u32 u33 u34 u35 u36 u37 u38 u39 u40 u41 u42 u43 u44 u45 u46 u47 u48 u49 u50 u51 u52 u53 u54 u55 : Value) (wx : World), w = wx → K ⟨#[c0, .pointer (some ⟨p, 0, none⟩), c2, .bool (headR fr to_ term index logTerm commit round), c4, c5, u6, u7, u8, u9, u10, u11, u12, u13, u14, u15, u16, u17, u18, u19, u20, u21, u22, u23, u24, u25, u26, u27, u28, u29, u30, u31, u32, u33, u34, u35, u36, u37, u38, u39, u40, u41, u42, u43, u44, u45, u46, u47, u48, u49, u50, u51, u52, u53, u54, u55, c56, c57, c58, c59, c60, c61, c62, c63, c64, c65, c66, c67, c68, c69, c70, c71, c72, c73, c74, c75, c76, c77, c78, c79, c80, c81, c82, c83, c84, c85, c86, c87, c88, c89, c90, c91, c92, c93, c94, c95, c96, c97, c98, c99, c100, c101, c102, c103, c104, c105, c106, c107, c108, c109, c110, c111, c112, c113, c114, c115, c116, c117, c118, c119, c120, c121, c122, c123, c124, c125, c126, c127, c128, c129, c130, c131, c132, c133, c134, c135, c136, c137, c138, c139, c140, c141, c142, c143, c144, c145, c146, c147, c148, c149, c150, c151, c152, c153, c154, c155, c156, c157, c158, c159, c160, c161, c162, c163, c164, c165, c166, c167, c168, c169, c170, c171, c172, c173, c174, c175, c176, c177, c178, c179, c180, c181, c182, c183], []⟩ wx) :
    Code.wp Try.prog ((Try.f48.body.bind (regionAt 1)).getD .skip) (Exit.then K Q) ⟨#[c0, .pointer (some ⟨p, 0, none⟩), c2, c3, c4, c5, c6, c7, c8, c9, c10, c11, c12, c13, c14, c15, c16, c17, c18, c19, c20, c21, c22, c23, c24, c25, c26, c27, c28, c29, c30, c31, c32, c33, c34, c35, c36, c37, c38, c39, c40, c41, c42, c43, c44, c45, c46, c47, c48, c49, c50, c51, c52, c53, c54, c55, c56, c57, c58, c59, c60, c61, c62, c63, c64, c65, c66, c67, c68, c69, c70, c71, c72, c73, c74, c75, c76, c77, c78, c79, c80, c81, c82, c83, c84, c85, c86, c87, c88, c89, c90, c91, c92, c93, c94, c95, c96, c97, c98, c99, c100, c101, c102, c103, c104, c105, c106, c107, c108, c109, c110, c111, c112, c113, c114, c115, c116, c117, c118, c119, c120, c121, c122, c123, c124, c125, c126, c127, c128, c129, c130, c131, c132, c133, c134, c135, c136, c137, c138, c139, c140, c141, c142, c143, c144, c145, c146, c147, c148, c149, c150, c151, c152, c153, c154, c155, c156, c157, c158, c159, c160, c161, c162, c163, c164, c165, c166, c167, c168, c169, c170, c171, c172, c173, c174, c175, c176, c177, c178, c179, c180, c181, c182, c183], []⟩ w := by
  conv => arg 2; whnf
  have hc1 : w.cell? ⟨p, 1, none⟩ = some (.int .i64 fr) := cell_blk HB.out 1
  have hc2 : w.cell? ⟨p, 2, none⟩ = some (.int .i64 to_) := cell_blk HB.out 2
  have hc3 : w.cell? ⟨p, 3, none⟩ = some (.int .i64 term) := cell_blk HB.out 3
  have hc4 : w.cell? ⟨p, 4, none⟩ = some (.int .i64 index) := cell_blk HB.out 4
  have hc5 : w.cell? ⟨p, 5, none⟩ = some (.int .i64 logTerm) := cell_blk HB.out 5
  have hc6 : w.cell? ⟨p, 6, none⟩ = some (.int .i64 commit) := cell_blk HB.out 6
  have hc7 : w.cell? ⟨p, 7, none⟩ = some (.int .i64 round) := cell_blk HB.out 7
  have HK := Lib.hid hK
  clear hK
  go_wp2_with fail
  refine (good_calls _ fr 0).mono ?_
  rintro e w' ⟨rfl, rfl⟩
  cases h0 : goodB fr 0
  · have HF := Lib.hid (show headR fr to_ term index logTerm commit round = false by unfold headR; rw [h0]; rfl)
    rw [HF.out] at HK
    go_wp2_with fail
    exact HK.out _ _ _ _ _ _ _ _ _ _ _ _ _ _ _ _ _ _ _ _ _ _ _ _ _ _ _ _ _ _ _ _ _ _ _ _ _ _ _ _ _ _ _ _ _ _ _ _ _ _ _ rfl
  · by_cases h1 : fr < 7
    · have d1 : decide (fr < 7) = true := decide_eq_true h1
      go_wp2_with fail
      refine (good_calls _ to_ 0).mono ?_
      rintro e w' ⟨rfl, rfl⟩
      cases h2 : goodB to_ 0
      · have HF := Lib.hid (show headR fr to_ term index logTerm commit round = false by unfold headR; rw [h0, d1, h2]; rfl)
        rw [HF.out] at HK
        go_wp2_with fail
        exact HK.out _ _ _ _ _ _ _ _ _ _ _ _ _ _ _ _ _ _ _ _ _ _ _ _ _ _ _ _ _ _ _ _ _ _ _ _ _ _ _ _ _ _ _ _ _ _ _ _ _ _ _ rfl
      · by_cases h3 : to_ < 7
        · have d3 : decide (to_ < 7) = true := decide_eq_true h3
          by_cases h4 : fr = to_
          · have b4 : (fr != to_) = false := by simp [h4]
            have HF := Lib.hid (show headR fr to_ term index logTerm commit round = false by unfold headR; rw [h0, d1, h2, d3, decide_eq_false (fun h => h h4)]; rfl)
            rw [HF.out] at HK
            go_wp2_with fail
            exact HK.out _ _ _ _ _ _ _ _ _ _ _ _ _ _ _ _ _ _ _ _ _ _ _ _ _ _ _ _ _ _ _ _ _ _ _ _ _ _ _ _ _ _ _ _ _ _ _ _ _ _ _ rfl
          · have b4 : (fr != to_) = true := bne_iff_ne.2 h4
            go_wp2_with fail
            refine (good_calls _ term 1).mono ?_
            rintro e w' ⟨rfl, rfl⟩
            cases h5 : goodB term 1
            · have HF := Lib.hid (show headR fr to_ term index logTerm commit round = false by unfold headR; rw [h0, d1, h2, d3, decide_eq_true (show fr ≠ to_ from h4), h5]; rfl)
              rw [HF.out] at HK
              go_wp2_with fail
              exact HK.out _ _ _ _ _ _ _ _ _ _ _ _ _ _ _ _ _ _ _ _ _ _ _ _ _ _ _ _ _ _ _ _ _ _ _ _ _ _ _ _ _ _ _ _ _ _ _ _ _ _ _ rfl
            · go_wp2_with fail
              refine (good_calls _ index 0).mono ?_
              rintro e w' ⟨rfl, rfl⟩
              cases h6 : goodB index 0
              · have HF := Lib.hid (show headR fr to_ term index logTerm commit round = false by unfold headR; rw [h0, d1, h2, d3, decide_eq_true (show fr ≠ to_ from h4), h5, h6]; rfl)
                rw [HF.out] at HK
                go_wp2_with fail
                exact HK.out _ _ _ _ _ _ _ _ _ _ _ _ _ _ _ _ _ _ _ _ _ _ _ _ _ _ _ _ _ _ _ _ _ _ _ _ _ _ _ _ _ _ _ _ _ _ _ _ _ _ _ rfl
              · go_wp2_with fail
                refine (good_calls _ logTerm 0).mono ?_
                rintro e w' ⟨rfl, rfl⟩
                cases h7 : goodB logTerm 0
                · have HF := Lib.hid (show headR fr to_ term index logTerm commit round = false by unfold headR; rw [h0, d1, h2, d3, decide_eq_true (show fr ≠ to_ from h4), h5, h6, h7]; rfl)
                  rw [HF.out] at HK
                  go_wp2_with fail
                  exact HK.out _ _ _ _ _ _ _ _ _ _ _ _ _ _ _ _ _ _ _ _ _ _ _ _ _ _ _ _ _ _ _ _ _ _ _ _ _ _ _ _ _ _ _ _ _ _ _ _ _ _ _ rfl
                · go_wp2_with fail
                  refine (good_calls _ commit 0).mono ?_
                  rintro e w' ⟨rfl, rfl⟩
                  cases h8 : goodB commit 0
                  · have HF := Lib.hid (show headR fr to_ term index logTerm commit round = false by unfold headR; rw [h0, d1, h2, d3, decide_eq_true (show fr ≠ to_ from h4), h5, h6, h7, h8]; rfl)
                    rw [HF.out] at HK
                    go_wp2_with fail
                    exact HK.out _ _ _ _ _ _ _ _ _ _ _ _ _ _ _ _ _ _ _ _ _ _ _ _ _ _ _ _ _ _ _ _ _ _ _ _ _ _ _ _ _ _ _ _ _ _ _ _ _ _ _ rfl
                  · go_wp2_with fail
                    refine (good_calls _ round 0).mono ?_
                    rintro e w' ⟨rfl, rfl⟩
                    cases h9 : goodB round 0
                    · have HF := Lib.hid (show headR fr to_ term index logTerm commit round = false by unfold headR; rw [h0, d1, h2, d3, decide_eq_true (show fr ≠ to_ from h4), h5, h6, h7, h8, h9]; rfl)
                      rw [HF.out] at HK
                      go_wp2_with fail
                      exact HK.out _ _ _ _ _ _ _ _ _ _ _ _ _ _ _ _ _ _ _ _ _ _ _ _ _ _ _ _ _ _ _ _ _ _ _ _ _ _ _ _ _ _ _ _ _ _ _ _ _ _ _ rfl
                    · have HF := Lib.hid (show headR fr to_ term index logTerm commit round = true by unfold headR; rw [h0, d1, h2, d3, decide_eq_true (show fr ≠ to_ from h4), h5, h6, h7, h8, h9]; rfl)
                      rw [HF.out] at HK
                      go_wp2_with fail
                      exact HK.out _ _ _ _ _ _ _ _ _ _ _ _ _ _ _ _ _ _ _ _ _ _ _ _ _ _ _ _ _ _ _ _ _ _ _ _ _ _ _ _ _ _ _ _ _ _ _ _ _ _ _ rfl
        · have d3 : decide (to_ < 7) = false := decide_eq_false h3
          have HF := Lib.hid (show headR fr to_ term index logTerm commit round = false by unfold headR; rw [h0, d1, h2, d3]; rfl)
          rw [HF.out] at HK
          go_wp2_with fail
          exact HK.out _ _ _ _ _ _ _ _ _ _ _ _ _ _ _ _ _ _ _ _ _ _ _ _ _ _ _ _ _ _ _ _ _ _ _ _ _ _ _ _ _ _ _ _ _ _ _ _ _ _ _ rfl
    · have d1 : decide (fr < 7) = false := decide_eq_false h1
      have HF := Lib.hid (show headR fr to_ term index logTerm commit round = false by unfold headR; rw [h0, d1]; rfl)
      rw [HF.out] at HK
      go_wp2_with fail
      exact HK.out _ _ _ _ _ _ _ _ _ _ _ _ _ _ _ _ _ _ _ _ _ _ _ _ _ _ _ _ _ _ _ _ _ _ _ _ _ _ _ _ _ _ _ _ _ _ _ _ _ _ _ rfl
set_option maxRecDepth 1000000 in
set_option maxHeartbeats 4000000 in
theorem rchk8 {Q : Exit → Act → World → Prop} {w : World} {c0 c2 c4 c5 c6 c7 c8 c9 c10 c11 c12 c13 c14 c15 c16 c17 c18 c19 c20 c21 c22 c23 c24 c25 c26 c27 c28 c29 c30 c31 c32 c33 c34 c35 c36 c37 c38 c39 c40 c41 c42 c43 c44 c45 c46 c47 c48 c49 c50 c51 c52 c53 c54 c55 c56 c57 c58 c59 c60 c61 c62 c63 c64 c65 c66 c67 c68 c69 c70 c71 c72 c73 c74 c75 c76 c77 c78 c79 c80 c81 c82 c83 c84 c85 c86 c87 c88 c89 c90 c91 c92 c93 c94 c95 c96 c97 c98 c99 c100 c101 c102 c103 c104 c105 c106 c107 c108 c109 c110 c111 c112 c113 c114 c115 c116 c117 c118 c119 c120 c121 c122 c123 c124 c125 c126 c127 c128 c129 c130 c131 c132 c133 c134 c135 c136 c137 c138 c139 c140 c141 c142 c143 c144 c145 c146 c147 c148 c149 c150 c151 c152 c153 c154 c155 c156 c157 c158 c159 c160 c161 c162 c163 c164 c165 c166 c167 c168 c169 c170 c171 c172 c173 c174 c175 c176 c177 c178 c179 c180 c181 c182 c183 : Value} (p : Nat) (kind fr to_ term index logTerm commit round : Int) (yes done : Bool) (Ae : Option Addr) (ne ce : Nat) (Av : Option Addr) (nv cv : Nat) (Ad : Option Addr) (nd cd : Nat)
    (HB : Hid (w.heap[p]? = some (.cells #[.int .i64 kind, .int .i64 fr, .int .i64 to_, .int .i64 term, .int .i64 index, .int .i64 logTerm, .int .i64 commit, .int .i64 round, .bool yes, .bool done, .slice Ae ne ce, .slice Av nv cv, .slice Ad nd cd] 26 (0, 0)))) (h : Bool)
    (hK : ∀ (b3 : Bool) (u63 u64 u65 u66 u67 u68 u69 u70 u71 u72 u73 u74 u75 u76 u77 u78 u79 u80 u81 : Value) (wx : World), b3 = (h && decide (ne = 0) && decide (nv = 0) && decide (nd = 0)) → w = wx → Q .normal ⟨#[c0, .pointer (some ⟨p, 0, none⟩), c2, .bool b3, c4, c5, c6, c7, c8, c9, c10, c11, c12, c13, c14, c15, c16, c17, c18, c19, c20, c21, c22, c23, c24, c25, c26, c27, c28, c29, c30, c31, c32, c33, c34, c35, c36, c37, c38, c39, c40, c41, c42, c43, c44, c45, c46, c47, c48, c49, c50, c51, c52, c53, c54, c55, c56, c57, c58, c59, c60, c61, c62, u63, u64, u65, u66, u67, u68, u69, u70, u71, u72, u73, u74, u75, u76, u77, u78, u79, u80, u81, c82, c83, c84, c85, c86, c87, c88, c89, c90, c91, c92, c93, c94, c95, c96, c97, c98, c99, c100, c101, c102, c103, c104, c105, c106, c107, c108, c109, c110, c111, c112, c113, c114, c115, c116, c117, c118, c119, c120, c121, c122, c123, c124, c125, c126, c127, c128, c129, c130, c131, c132, c133, c134, c135, c136, c137, c138, c139, c140, c141, c142, c143, c144, c145, c146, c147, c148, c149, c150, c151, c152, c153, c154, c155, c156, c157, c158, c159, c160, c161, c162, c163, c164, c165, c166, c167, c168, c169, c170, c171, c172, c173, c174, c175, c176, c177, c178, c179, c180, c181, c182, c183], []⟩ wx) :
    Code.wp Try.prog ((Try.f48.body.bind (regionAt 8)).getD .skip) Q ⟨#[c0, .pointer (some ⟨p, 0, none⟩), c2, .bool h, c4, c5, c6, c7, c8, c9, c10, c11, c12, c13, c14, c15, c16, c17, c18, c19, c20, c21, c22, c23, c24, c25, c26, c27, c28, c29, c30, c31, c32, c33, c34, c35, c36, c37, c38, c39, c40, c41, c42, c43, c44, c45, c46, c47, c48, c49, c50, c51, c52, c53, c54, c55, c56, c57, c58, c59, c60, c61, c62, c63, c64, c65, c66, c67, c68, c69, c70, c71, c72, c73, c74, c75, c76, c77, c78, c79, c80, c81, c82, c83, c84, c85, c86, c87, c88, c89, c90, c91, c92, c93, c94, c95, c96, c97, c98, c99, c100, c101, c102, c103, c104, c105, c106, c107, c108, c109, c110, c111, c112, c113, c114, c115, c116, c117, c118, c119, c120, c121, c122, c123, c124, c125, c126, c127, c128, c129, c130, c131, c132, c133, c134, c135, c136, c137, c138, c139, c140, c141, c142, c143, c144, c145, c146, c147, c148, c149, c150, c151, c152, c153, c154, c155, c156, c157, c158, c159, c160, c161, c162, c163, c164, c165, c166, c167, c168, c169, c170, c171, c172, c173, c174, c175, c176, c177, c178, c179, c180, c181, c182, c183], []⟩ w := by
  conv => arg 2; whnf
  have hc10 : w.cell? ⟨p, 10, none⟩ = some (.slice Ae ne ce) := cell_blk HB.out 10
  have hc11 : w.cell? ⟨p, 11, none⟩ = some (.slice Av nv cv) := cell_blk HB.out 11
  have hc12 : w.cell? ⟨p, 12, none⟩ = some (.slice Ad nd cd) := cell_blk HB.out 12
  have HK := Lib.hid hK
  clear hK
  cases h
  · go_wp2_with fail
    exact HK.out _ _ _ _ _ _ _ _ _ _ _ _ _ _ _ _ _ _ _ _ _ rfl rfl
  · by_cases he : ne = 0
    · have hbe : ((ne : Int) == 0) = true := beq_iff_eq.2 (by omega)
      by_cases hv : nv = 0
      · have hbv : ((nv : Int) == 0) = true := beq_iff_eq.2 (by omega)
        by_cases hd : nd = 0
        · have hbd : ((nd : Int) == 0) = true := beq_iff_eq.2 (by omega)
          have HF := Lib.hid (show true = (true && decide (ne = 0) && decide (nv = 0) && decide (nd = 0)) by rw [decide_eq_true he, decide_eq_true hv, decide_eq_true hd]; rfl)
          clear he hv hd
          go_wp2_with fail
          exact HK.out _ _ _ _ _ _ _ _ _ _ _ _ _ _ _ _ _ _ _ _ _ HF.out rfl
        · have hbd : ((nd : Int) == 0) = false := beq_eq_false_iff_ne.2 (by omega)
          have HF := Lib.hid (show false = (true && decide (ne = 0) && decide (nv = 0) && decide (nd = 0)) by rw [decide_eq_true he, decide_eq_true hv, decide_eq_false hd]; rfl)
          clear he hv hd
          go_wp2_with fail
          exact HK.out _ _ _ _ _ _ _ _ _ _ _ _ _ _ _ _ _ _ _ _ _ HF.out rfl
      · have hbv : ((nv : Int) == 0) = false := beq_eq_false_iff_ne.2 (by omega)
        have HF := Lib.hid (show false = (true && decide (ne = 0) && decide (nv = 0) && decide (nd = 0)) by rw [decide_eq_true he, decide_eq_false hv]; rfl)
        clear he hv
        go_wp2_with fail
        exact HK.out _ _ _ _ _ _ _ _ _ _ _ _ _ _ _ _ _ _ _ _ _ HF.out rfl
    · have hbe : ((ne : Int) == 0) = false := beq_eq_false_iff_ne.2 (by omega)
      have HF := Lib.hid (show false = (true && decide (ne = 0) && decide (nv = 0) && decide (nd = 0)) by rw [decide_eq_false he]; rfl)
      clear he
      go_wp2_with fail
      exact HK.out _ _ _ _ _ _ _ _ _ _ _ _ _ _ _ _ _ _ _ _ _ HF.out rfl
set_option maxRecDepth 1000000 in
set_option maxHeartbeats 4000000 in
theorem rchk10 {K : Act → World → Prop} {Q : Exit → Act → World → Prop} {w : World} {c0 c2 c4 c5 c6 c7 c8 c9 c10 c11 c12 c13 c14 c15 c16 c17 c18 c19 c20 c21 c22 c23 c24 c25 c26 c27 c28 c29 c30 c31 c32 c33 c34 c35 c36 c37 c38 c39 c40 c41 c42 c43 c44 c45 c46 c47 c48 c49 c50 c51 c52 c53 c54 c55 c56 c57 c58 c59 c60 c61 c62 c63 c64 c65 c66 c67 c68 c69 c70 c71 c72 c73 c74 c75 c76 c77 c78 c79 c80 c81 c82 c83 c84 c85 c86 c87 c88 c89 c90 c91 c92 c93 c94 c95 c96 c97 c98 c99 c100 c101 c102 c103 c104 c105 c106 c107 c108 c109 c110 c111 c112 c113 c114 c115 c116 c117 c118 c119 c120 c121 c122 c123 c124 c125 c126 c127 c128 c129 c130 c131 c132 c133 c134 c135 c136 c137 c138 c139 c140 c141 c142 c143 c144 c145 c146 c147 c148 c149 c150 c151 c152 c153 c154 c155 c156 c157 c158 c159 c160 c161 c162 c163 c164 c165 c166 c167 c168 c169 c170 c171 c172 c173 c174 c175 c176 c177 c178 c179 c180 c181 c182 c183 : Value} (p : Nat) (kind fr to_ term index logTerm commit round : Int) (yes done : Bool) (Ae : Option Addr) (ne ce : Nat) (Av : Option Addr) (nv cv : Nat) (Ad : Option Addr) (nd cd : Nat)
    (HB : Hid (w.heap[p]? = some (.cells #[.int .i64 kind, .int .i64 fr, .int .i64 to_, .int .i64 term, .int .i64 index, .int .i64 logTerm, .int .i64 commit, .int .i64 round, .bool yes, .bool done, .slice Ae ne ce, .slice Av nv cv, .slice Ad nd cd] 26 (0, 0)))) (h rs : Bool) (HRis : Hid (h = true → Calls Try.prog 71 #[.int .i64 index, .int .i64 logTerm, .slice Ae ne ce] w fun e w' => e = .returned (.bool rs) ∧ Ext w w'))
    (hK : ∀ (b3 : Bool) (u84 u85 u86 u87 u88 u89 u90 u91 u92 u93 u94 u95 u96 u97 u98 u99 u100 u101 u102 u103 u104 u105 u106 u107 u108 u109 u110 u111 u112 u113 u114 u115 u116 u117 u118 u119 u120 u121 u122 u123 u124 u125 u126 u127 : Value) (wx : World), b3 = (h && decide (ne ≤ 8) && decide (nv = 0) && decide (nd = 0) && (decide (0 < index) == decide (0 < logTerm)) && decide (logTerm ≤ term) && rs) → Ext w wx → K ⟨#[c0, .pointer (some ⟨p, 0, none⟩), c2, .bool b3, c4, c5, c6, c7, c8, c9, c10, c11, c12, c13, c14, c15, c16, c17, c18, c19, c20, c21, c22, c23, c24, c25, c26, c27, c28, c29, c30, c31, c32, c33, c34, c35, c36, c37, c38, c39, c40, c41, c42, c43, c44, c45, c46, c47, c48, c49, c50, c51, c52, c53, c54, c55, c56, c57, c58, c59, c60, c61, c62, c63, c64, c65, c66, c67, c68, c69, c70, c71, c72, c73, c74, c75, c76, c77, c78, c79, c80, c81, c82, c83, u84, u85, u86, u87, u88, u89, u90, u91, u92, u93, u94, u95, u96, u97, u98, u99, u100, u101, u102, u103, u104, u105, u106, u107, u108, u109, u110, u111, u112, u113, u114, u115, u116, u117, u118, u119, u120, u121, u122, u123, u124, u125, u126, u127, c128, c129, c130, c131, c132, c133, c134, c135, c136, c137, c138, c139, c140, c141, c142, c143, c144, c145, c146, c147, c148, c149, c150, c151, c152, c153, c154, c155, c156, c157, c158, c159, c160, c161, c162, c163, c164, c165, c166, c167, c168, c169, c170, c171, c172, c173, c174, c175, c176, c177, c178, c179, c180, c181, c182, c183], []⟩ wx) :
    Code.wp Try.prog ((Try.f48.body.bind (regionAt 10)).getD .skip) (Exit.then K Q) ⟨#[c0, .pointer (some ⟨p, 0, none⟩), c2, .bool h, c4, c5, c6, c7, c8, c9, c10, c11, c12, c13, c14, c15, c16, c17, c18, c19, c20, c21, c22, c23, c24, c25, c26, c27, c28, c29, c30, c31, c32, c33, c34, c35, c36, c37, c38, c39, c40, c41, c42, c43, c44, c45, c46, c47, c48, c49, c50, c51, c52, c53, c54, c55, c56, c57, c58, c59, c60, c61, c62, c63, c64, c65, c66, c67, c68, c69, c70, c71, c72, c73, c74, c75, c76, c77, c78, c79, c80, c81, c82, c83, c84, c85, c86, c87, c88, c89, c90, c91, c92, c93, c94, c95, c96, c97, c98, c99, c100, c101, c102, c103, c104, c105, c106, c107, c108, c109, c110, c111, c112, c113, c114, c115, c116, c117, c118, c119, c120, c121, c122, c123, c124, c125, c126, c127, c128, c129, c130, c131, c132, c133, c134, c135, c136, c137, c138, c139, c140, c141, c142, c143, c144, c145, c146, c147, c148, c149, c150, c151, c152, c153, c154, c155, c156, c157, c158, c159, c160, c161, c162, c163, c164, c165, c166, c167, c168, c169, c170, c171, c172, c173, c174, c175, c176, c177, c178, c179, c180, c181, c182, c183], []⟩ w := by
  conv => arg 2; whnf
  have hc3 : w.cell? ⟨p, 3, none⟩ = some (.int .i64 term) := cell_blk HB.out 3
  have hc4 : w.cell? ⟨p, 4, none⟩ = some (.int .i64 index) := cell_blk HB.out 4
  have hc5 : w.cell? ⟨p, 5, none⟩ = some (.int .i64 logTerm) := cell_blk HB.out 5
  have hc10 : w.cell? ⟨p, 10, none⟩ = some (.slice Ae ne ce) := cell_blk HB.out 10
  have hc11 : w.cell? ⟨p, 11, none⟩ = some (.slice Av nv cv) := cell_blk HB.out 11
  have hc12 : w.cell? ⟨p, 12, none⟩ = some (.slice Ad nd cd) := cell_blk HB.out 12
  have HK := Lib.hid hK
  clear hK
  cases h
  · have HF := Lib.hid (show false = (false && decide (ne ≤ 8) && decide (nv = 0) && decide (nd = 0) && (decide (0 < index) == decide (0 < logTerm)) && decide (logTerm ≤ term) && rs) by rfl)
    go_wp2_with fail
    exact HK.out _ _ _ _ _ _ _ _ _ _ _ _ _ _ _ _ _ _ _ _ _ _ _ _ _ _ _ _ _ _ _ _ _ _ _ _ _ _ _ _ _ _ _ _ _ _ HF.out (Ext.refl _)
  · by_cases g0 : ne ≤ 8
    · have hlne : decide ((ne : Int) ≤ 8) = true := decide_eq_true (by omega)
      by_cases g1 : nv = 0
      · have hbnv : ((nv : Int) == 0) = true := beq_iff_eq.2 (by omega)
        by_cases g2 : nd = 0
        · have hbnd : ((nd : Int) == 0) = true := beq_iff_eq.2 (by omega)
          by_cases i1 : 0 < index
          · by_cases l1 : 0 < logTerm
            · by_cases t1 : logTerm ≤ term
              · have hi : decide (0 < index) = true := decide_eq_true i1
                have hl : decide (0 < logTerm) = true := decide_eq_true l1
                have ht : decide (logTerm ≤ term) = true := decide_eq_true t1
                have HF := Lib.hid (show rs = (true && decide (ne ≤ 8) && decide (nv = 0) && decide (nd = 0) && (decide (0 < index) == decide (0 < logTerm)) && decide (logTerm ≤ term) && rs) by rw [decide_eq_true g0, decide_eq_true g1, decide_eq_true g2, hi, hl, ht]; simp)
                clear i1 l1 t1 g0 g1 g2
                go_wp2_with fail
                refine (HRis.out trivial).mono ?_
                rintro e w5 ⟨rfl, he5⟩
                have HX5 := Lib.hid he5
                clear he5
                go_wp2_with fail
                exact HK.out _ _ _ _ _ _ _ _ _ _ _ _ _ _ _ _ _ _ _ _ _ _ _ _ _ _ _ _ _ _ _ _ _ _ _ _ _ _ _ _ _ _ _ _ _ _ HF.out HX5.out
              · have hi : decide (0 < index) = true := decide_eq_true i1
                have hl : decide (0 < logTerm) = true := decide_eq_true l1
                have ht : decide (logTerm ≤ term) = false := decide_eq_false t1
                have HF := Lib.hid (show false = (true && decide (ne ≤ 8) && decide (nv = 0) && decide (nd = 0) && (decide (0 < index) == decide (0 < logTerm)) && decide (logTerm ≤ term) && rs) by rw [decide_eq_true g0, decide_eq_true g1, decide_eq_true g2, hi, hl, ht]; rfl)
                clear i1 l1 t1 g0 g1 g2
                go_wp2_with fail
                exact HK.out _ _ _ _ _ _ _ _ _ _ _ _ _ _ _ _ _ _ _ _ _ _ _ _ _ _ _ _ _ _ _ _ _ _ _ _ _ _ _ _ _ _ _ _ _ _ HF.out (Ext.refl _)
            · have hi : decide (0 < index) = true := decide_eq_true i1
              have hl : decide (0 < logTerm) = false := decide_eq_false l1
              have HF := Lib.hid (show false = (true && decide (ne ≤ 8) && decide (nv = 0) && decide (nd = 0) && (decide (0 < index) == decide (0 < logTerm)) && decide (logTerm ≤ term) && rs) by rw [decide_eq_true g0, decide_eq_true g1, decide_eq_true g2, hi, hl]; rfl)
              clear i1 l1 g0 g1 g2
              go_wp2_with fail
              exact HK.out _ _ _ _ _ _ _ _ _ _ _ _ _ _ _ _ _ _ _ _ _ _ _ _ _ _ _ _ _ _ _ _ _ _ _ _ _ _ _ _ _ _ _ _ _ _ HF.out (Ext.refl _)
          · by_cases l1 : 0 < logTerm
            · have hi : decide (0 < index) = false := decide_eq_false i1
              have hl : decide (0 < logTerm) = true := decide_eq_true l1
              have HF := Lib.hid (show false = (true && decide (ne ≤ 8) && decide (nv = 0) && decide (nd = 0) && (decide (0 < index) == decide (0 < logTerm)) && decide (logTerm ≤ term) && rs) by rw [decide_eq_true g0, decide_eq_true g1, decide_eq_true g2, hi, hl]; rfl)
              clear i1 l1 g0 g1 g2
              go_wp2_with fail
              exact HK.out _ _ _ _ _ _ _ _ _ _ _ _ _ _ _ _ _ _ _ _ _ _ _ _ _ _ _ _ _ _ _ _ _ _ _ _ _ _ _ _ _ _ _ _ _ _ HF.out (Ext.refl _)
            · by_cases t1 : logTerm ≤ term
              · have hi : decide (0 < index) = false := decide_eq_false i1
                have hl : decide (0 < logTerm) = false := decide_eq_false l1
                have ht : decide (logTerm ≤ term) = true := decide_eq_true t1
                have HF := Lib.hid (show rs = (true && decide (ne ≤ 8) && decide (nv = 0) && decide (nd = 0) && (decide (0 < index) == decide (0 < logTerm)) && decide (logTerm ≤ term) && rs) by rw [decide_eq_true g0, decide_eq_true g1, decide_eq_true g2, hi, hl, ht]; simp)
                clear i1 l1 t1 g0 g1 g2
                go_wp2_with fail
                refine (HRis.out trivial).mono ?_
                rintro e w5 ⟨rfl, he5⟩
                have HX5 := Lib.hid he5
                clear he5
                go_wp2_with fail
                exact HK.out _ _ _ _ _ _ _ _ _ _ _ _ _ _ _ _ _ _ _ _ _ _ _ _ _ _ _ _ _ _ _ _ _ _ _ _ _ _ _ _ _ _ _ _ _ _ HF.out HX5.out
              · have hi : decide (0 < index) = false := decide_eq_false i1
                have hl : decide (0 < logTerm) = false := decide_eq_false l1
                have ht : decide (logTerm ≤ term) = false := decide_eq_false t1
                have HF := Lib.hid (show false = (true && decide (ne ≤ 8) && decide (nv = 0) && decide (nd = 0) && (decide (0 < index) == decide (0 < logTerm)) && decide (logTerm ≤ term) && rs) by rw [decide_eq_true g0, decide_eq_true g1, decide_eq_true g2, hi, hl, ht]; rfl)
                clear i1 l1 t1 g0 g1 g2
                go_wp2_with fail
                exact HK.out _ _ _ _ _ _ _ _ _ _ _ _ _ _ _ _ _ _ _ _ _ _ _ _ _ _ _ _ _ _ _ _ _ _ _ _ _ _ _ _ _ _ _ _ _ _ HF.out (Ext.refl _)
        · have HF := Lib.hid (show false = (true && decide (ne ≤ 8) && decide (nv = 0) && decide (nd = 0) && (decide (0 < index) == decide (0 < logTerm)) && decide (logTerm ≤ term) && rs) by rw [decide_eq_true g0, decide_eq_true g1, decide_eq_false g2]; rfl)
          have hbnd : ((nd : Int) == 0) = false := beq_eq_false_iff_ne.2 (by omega)
          clear g0 g1 g2
          go_wp2_with fail
          exact HK.out _ _ _ _ _ _ _ _ _ _ _ _ _ _ _ _ _ _ _ _ _ _ _ _ _ _ _ _ _ _ _ _ _ _ _ _ _ _ _ _ _ _ _ _ _ _ HF.out (Ext.refl _)
      · have HF := Lib.hid (show false = (true && decide (ne ≤ 8) && decide (nv = 0) && decide (nd = 0) && (decide (0 < index) == decide (0 < logTerm)) && decide (logTerm ≤ term) && rs) by rw [decide_eq_true g0, decide_eq_false g1]; rfl)
        have hbnv : ((nv : Int) == 0) = false := beq_eq_false_iff_ne.2 (by omega)
        clear g0 g1
        go_wp2_with fail
        exact HK.out _ _ _ _ _ _ _ _ _ _ _ _ _ _ _ _ _ _ _ _ _ _ _ _ _ _ _ _ _ _ _ _ _ _ _ _ _ _ _ _ _ _ _ _ _ _ HF.out (Ext.refl _)
    · have HF := Lib.hid (show false = (true && decide (ne ≤ 8) && decide (nv = 0) && decide (nd = 0) && (decide (0 < index) == decide (0 < logTerm)) && decide (logTerm ≤ term) && rs) by rw [decide_eq_false g0]; rfl)
      have hlne : decide ((ne : Int) ≤ 8) = false := decide_eq_false (by omega)
      clear g0
      go_wp2_with fail
      exact HK.out _ _ _ _ _ _ _ _ _ _ _ _ _ _ _ _ _ _ _ _ _ _ _ _ _ _ _ _ _ _ _ _ _ _ _ _ _ _ _ _ _ _ _ _ _ _ HF.out (Ext.refl _)
set_option maxRecDepth 1000000 in
set_option maxHeartbeats 4000000 in
theorem rchk17 {Q : Exit → Act → World → Prop} {w : World} {c0 c2 c4 c5 c6 c7 c8 c9 c10 c11 c12 c13 c14 c15 c16 c17 c18 c19 c20 c21 c22 c23 c24 c25 c26 c27 c28 c29 c30 c31 c32 c33 c34 c35 c36 c37 c38 c39 c40 c41 c42 c43 c44 c45 c46 c47 c48 c49 c50 c51 c52 c53 c54 c55 c56 c57 c58 c59 c60 c61 c62 c63 c64 c65 c66 c67 c68 c69 c70 c71 c72 c73 c74 c75 c76 c77 c78 c79 c80 c81 c82 c83 c84 c85 c86 c87 c88 c89 c90 c91 c92 c93 c94 c95 c96 c97 c98 c99 c100 c101 c102 c103 c104 c105 c106 c107 c108 c109 c110 c111 c112 c113 c114 c115 c116 c117 c118 c119 c120 c121 c122 c123 c124 c125 c126 c127 c128 c129 c130 c131 c132 c133 c134 c135 c136 c137 c138 c139 c140 c141 c142 c143 c144 c145 c146 c147 c148 c149 c150 c151 c152 c153 c154 c155 c156 c157 c158 c159 c160 c161 c162 c163 c164 c165 c166 c167 c168 c169 c170 c171 c172 c173 c174 c175 c176 c177 c178 c179 c180 c181 c182 c183 : Value} (p : Nat) (kind fr to_ term index logTerm commit round : Int) (yes done : Bool) (Ae : Option Addr) (ne ce : Nat) (Av : Option Addr) (nv cv : Nat) (Ad : Option Addr) (nd cd : Nat)
    (HB : Hid (w.heap[p]? = some (.cells #[.int .i64 kind, .int .i64 fr, .int .i64 to_, .int .i64 term, .int .i64 index, .int .i64 logTerm, .int .i64 commit, .int .i64 round, .bool yes, .bool done, .slice Ae ne ce, .slice Av nv cv, .slice Ad nd cd] 26 (0, 0)))) (h c : Bool) (chkV : Int) (HCV : Hid (chkV = if c = true then 0 else 100)) (HCK : Hid (Calls Try.prog 72 #[.slice Av nv cv] w fun e w' => e = .returned (.int .i64 chkV) ∧ w = w'))
    (hK : ∀ (b3 : Bool) (u146 u147 u148 u149 u150 u151 u152 u153 u154 u155 u156 u157 u158 u159 u160 u161 u162 u163 u164 u165 u166 u167 u168 u169 u170 u171 u172 u173 u174 u175 u176 u177 u178 u179 u180 u181 : Value) (wx : World), b3 = (h && decide (ne = 0) && decide (nd ≤ 512) && decide (0 < index) && decide (0 < logTerm) && decide (logTerm ≤ term) && c) → Ext w wx → Q .normal ⟨#[c0, .pointer (some ⟨p, 0, none⟩), c2, .bool b3, c4, c5, c6, c7, c8, c9, c10, c11, c12, c13, c14, c15, c16, c17, c18, c19, c20, c21, c22, c23, c24, c25, c26, c27, c28, c29, c30, c31, c32, c33, c34, c35, c36, c37, c38, c39, c40, c41, c42, c43, c44, c45, c46, c47, c48, c49, c50, c51, c52, c53, c54, c55, c56, c57, c58, c59, c60, c61, c62, c63, c64, c65, c66, c67, c68, c69, c70, c71, c72, c73, c74, c75, c76, c77, c78, c79, c80, c81, c82, c83, c84, c85, c86, c87, c88, c89, c90, c91, c92, c93, c94, c95, c96, c97, c98, c99, c100, c101, c102, c103, c104, c105, c106, c107, c108, c109, c110, c111, c112, c113, c114, c115, c116, c117, c118, c119, c120, c121, c122, c123, c124, c125, c126, c127, c128, c129, c130, c131, c132, c133, c134, c135, c136, c137, c138, c139, c140, c141, c142, c143, c144, c145, u146, u147, u148, u149, u150, u151, u152, u153, u154, u155, u156, u157, u158, u159, u160, u161, u162, u163, u164, u165, u166, u167, u168, u169, u170, u171, u172, u173, u174, u175, u176, u177, u178, u179, u180, u181, c182, c183], []⟩ wx) :
    Code.wp Try.prog ((Try.f48.body.bind (regionAt 17)).getD .skip) Q ⟨#[c0, .pointer (some ⟨p, 0, none⟩), c2, .bool h, c4, c5, c6, c7, c8, c9, c10, c11, c12, c13, c14, c15, c16, c17, c18, c19, c20, c21, c22, c23, c24, c25, c26, c27, c28, c29, c30, c31, c32, c33, c34, c35, c36, c37, c38, c39, c40, c41, c42, c43, c44, c45, c46, c47, c48, c49, c50, c51, c52, c53, c54, c55, c56, c57, c58, c59, c60, c61, c62, c63, c64, c65, c66, c67, c68, c69, c70, c71, c72, c73, c74, c75, c76, c77, c78, c79, c80, c81, c82, c83, c84, c85, c86, c87, c88, c89, c90, c91, c92, c93, c94, c95, c96, c97, c98, c99, c100, c101, c102, c103, c104, c105, c106, c107, c108, c109, c110, c111, c112, c113, c114, c115, c116, c117, c118, c119, c120, c121, c122, c123, c124, c125, c126, c127, c128, c129, c130, c131, c132, c133, c134, c135, c136, c137, c138, c139, c140, c141, c142, c143, c144, c145, c146, c147, c148, c149, c150, c151, c152, c153, c154, c155, c156, c157, c158, c159, c160, c161, c162, c163, c164, c165, c166, c167, c168, c169, c170, c171, c172, c173, c174, c175, c176, c177, c178, c179, c180, c181, c182, c183], []⟩ w := by
  conv => arg 2; whnf
  have hc3 : w.cell? ⟨p, 3, none⟩ = some (.int .i64 term) := cell_blk HB.out 3
  have hc4 : w.cell? ⟨p, 4, none⟩ = some (.int .i64 index) := cell_blk HB.out 4
  have hc5 : w.cell? ⟨p, 5, none⟩ = some (.int .i64 logTerm) := cell_blk HB.out 5
  have hc10 : w.cell? ⟨p, 10, none⟩ = some (.slice Ae ne ce) := cell_blk HB.out 10
  have hc11 : w.cell? ⟨p, 11, none⟩ = some (.slice Av nv cv) := cell_blk HB.out 11
  have hc12 : w.cell? ⟨p, 12, none⟩ = some (.slice Ad nd cd) := cell_blk HB.out 12
  have HK := Lib.hid hK
  clear hK
  cases h
  · have HF := Lib.hid (show false = (false && decide (ne = 0) && decide (nd ≤ 512) && decide (0 < index) && decide (0 < logTerm) && decide (logTerm ≤ term) && c) by rfl)
    go_wp2_with fail
    exact HK.out _ _ _ _ _ _ _ _ _ _ _ _ _ _ _ _ _ _ _ _ _ _ _ _ _ _ _ _ _ _ _ _ _ _ _ _ _ _ HF.out (Ext.refl _)
  · by_cases g0 : ne = 0
    · have hbne : ((ne : Int) == 0) = true := beq_iff_eq.2 (by omega)
      by_cases g1 : nd ≤ 512
      · have hlnd : decide ((nd : Int) ≤ 512) = true := decide_eq_true (by omega)
        by_cases g2 : 0 < index
        · have hdi : decide (0 < index) = true := decide_eq_true g2
          by_cases g3 : 0 < logTerm
          · have hdl : decide (0 < logTerm) = true := decide_eq_true g3
            by_cases g4 : logTerm ≤ term
            · have hdt : decide (logTerm ≤ term) = true := decide_eq_true g4
              have HF := Lib.hid (show c = (true && decide (ne = 0) && decide (nd ≤ 512) && decide (0 < index) && decide (0 < logTerm) && decide (logTerm ≤ term) && c) by rw [decide_eq_true g0, decide_eq_true g1, decide_eq_true g2, decide_eq_true g3, decide_eq_true g4]; simp)
              cases c
              · rw [show chkV = 100 from HCV.out] at HCK
                clear g0 g1 g2 g3 g4
                go_wp2_with fail
                refine HCK.out.mono ?_
                rintro e w5 ⟨rfl, rfl⟩
                go_wp2_with fail
                exact HK.out _ _ _ _ _ _ _ _ _ _ _ _ _ _ _ _ _ _ _ _ _ _ _ _ _ _ _ _ _ _ _ _ _ _ _ _ _ _ HF.out (Ext.refl _)
              · rw [show chkV = 0 from HCV.out] at HCK
                clear g0 g1 g2 g3 g4
                go_wp2_with fail
                refine HCK.out.mono ?_
                rintro e w5 ⟨rfl, rfl⟩
                go_wp2_with fail
                exact HK.out _ _ _ _ _ _ _ _ _ _ _ _ _ _ _ _ _ _ _ _ _ _ _ _ _ _ _ _ _ _ _ _ _ _ _ _ _ _ HF.out (Ext.refl _)
            · have HF := Lib.hid (show false = (true && decide (ne = 0) && decide (nd ≤ 512) && decide (0 < index) && decide (0 < logTerm) && decide (logTerm ≤ term) && c) by rw [decide_eq_true g0, decide_eq_true g1, decide_eq_true g2, decide_eq_true g3, decide_eq_false g4]; rfl)
              have hdt : decide (logTerm ≤ term) = false := decide_eq_false g4
              clear g0 g1 g2 g3 g4
              go_wp2_with fail
              exact HK.out _ _ _ _ _ _ _ _ _ _ _ _ _ _ _ _ _ _ _ _ _ _ _ _ _ _ _ _ _ _ _ _ _ _ _ _ _ _ HF.out (Ext.refl _)
          · have HF := Lib.hid (show false = (true && decide (ne = 0) && decide (nd ≤ 512) && decide (0 < index) && decide (0 < logTerm) && decide (logTerm ≤ term) && c) by rw [decide_eq_true g0, decide_eq_true g1, decide_eq_true g2, decide_eq_false g3]; rfl)
            have hdl : decide (0 < logTerm) = false := decide_eq_false g3
            clear g0 g1 g2 g3
            go_wp2_with fail
            exact HK.out _ _ _ _ _ _ _ _ _ _ _ _ _ _ _ _ _ _ _ _ _ _ _ _ _ _ _ _ _ _ _ _ _ _ _ _ _ _ HF.out (Ext.refl _)
        · have HF := Lib.hid (show false = (true && decide (ne = 0) && decide (nd ≤ 512) && decide (0 < index) && decide (0 < logTerm) && decide (logTerm ≤ term) && c) by rw [decide_eq_true g0, decide_eq_true g1, decide_eq_false g2]; rfl)
          have hdi : decide (0 < index) = false := decide_eq_false g2
          clear g0 g1 g2
          go_wp2_with fail
          exact HK.out _ _ _ _ _ _ _ _ _ _ _ _ _ _ _ _ _ _ _ _ _ _ _ _ _ _ _ _ _ _ _ _ _ _ _ _ _ _ HF.out (Ext.refl _)
      · have HF := Lib.hid (show false = (true && decide (ne = 0) && decide (nd ≤ 512) && decide (0 < index) && decide (0 < logTerm) && decide (logTerm ≤ term) && c) by rw [decide_eq_true g0, decide_eq_false g1]; rfl)
        have hlnd : decide ((nd : Int) ≤ 512) = false := decide_eq_false (by omega)
        clear g0 g1
        go_wp2_with fail
        exact HK.out _ _ _ _ _ _ _ _ _ _ _ _ _ _ _ _ _ _ _ _ _ _ _ _ _ _ _ _ _ _ _ _ _ _ _ _ _ _ HF.out (Ext.refl _)
    · have HF := Lib.hid (show false = (true && decide (ne = 0) && decide (nd ≤ 512) && decide (0 < index) && decide (0 < logTerm) && decide (logTerm ≤ term) && c) by rw [decide_eq_false g0]; rfl)
      have hbne : ((ne : Int) == 0) = false := beq_eq_false_iff_ne.2 (by omega)
      clear g0
      go_wp2_with fail
      exact HK.out _ _ _ _ _ _ _ _ _ _ _ _ _ _ _ _ _ _ _ _ _ _ _ _ _ _ _ _ _ _ _ _ _ _ _ _ _ _ HF.out (Ext.refl _)
end Go.Proofs.Ytfflcnlgkbgbhaa
