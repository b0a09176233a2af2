/-
  Texts of this claim, put together: KeepSw, NetKeeps.
-/
import Derived.Test.YtfflcnlgkbgbhaaZ29
import Derived.Test.YtfflcnlgkbgbhaaZ30
import Derived.Test.YtfflcnlgkbgbhaaZ5
import Derived.Test.YtfflcnlgkbgbhaaZ22
set_option linter.unusedVariables false
set_option linter.unusedSimpArgs false
namespace Go.Proofs.Ytfflcnlgkbgbhaa
open Go.RowKit

/-- What the switch leaves. -/
def KeepOut (w wx : World) (g : Nat) (s : BagS) (u4 u5 u6 : Value) : Prop :=
  ∃ s' : BagS, (∃ A c, u4 = .slice A s'.ms.length c) ∧ (∃ A c, u5 = .slice A s'.ids.length c) ∧ u6 = .int .i64 s'.last ∧ KeepR wx g s' u4 u5 ∧ s'.last ≤ s.last + 65536 ∧ Upd (fun b => b = g) w wx

set_option maxRecDepth 1000000 in
set_option maxHeartbeats 16000000 in
theorem kpSw {K : Act → World → Prop} {Q : Exit → Act → World → Prop} {w : World} {c0 c1 c2 c7 c10 c11 c12 c13 c14 c15 c16 c17 c18 c19 c20 c21 c22 c23 c24 c25 c26 c27 c28 c29 c30 c31 c32 c33 c34 c35 c36 c38 c39 c40 c41 c42 c43 c44 c45 c46 c47 c48 c49 c50 c51 c52 c53 c54 c55 c56 c57 c58 c59 c60 c61 c62 c63 c64 c65 c66 c67 c68 c69 c70 c71 c72 c73 c74 c75 c76 c77 c78 c79 c80 c81 c82 c83 c84 c85 c86 c87 c88 c89 c90 c91 c92 c93 c94 c95 c96 c97 c98 c99 c100 c101 c102 c103 c104 c105 c106 c107 c108 c109 c110 c111 c112 c113 c114 c115 c116 c117 c118 c119 c120 c121 c122 c123 c124 c125 c126 c127 c128 c129 c130 c131 c132 c133 c134 c135 c136 c137 c138 c139 c140 c141 c142 c143 c144 c145 c146 c147 c148 c149 c150 c151 c152 c153 c154 c155 c156 c157 c158 c159 c160 c161 c162 c163 : Value} (g q n0 : Nat) (s : BagS) (op id : Int) (Al At Ai : Option Addr) (cl ct ci : Nat) (l : List MsgS) (r : Nat) (at0 : Int) (hat0 : Hid (at0 = s.at_ id)) (hr7 : r < 7) (hp : Hid (KeepR w g s (.slice At s.ms.length ct) (.slice Ai s.ids.length ci))) (hq : Hid (w.heap[q]? = some (.cells #[.int .i64 op, .int .i64 id, .slice Al l.length cl] 52 (0, 0)))) (hne : Hid (n0 ≤ g ∧ g < q)) (hl : Hid (Rs kMsg w (· < n0) (.slice Al l.length cl) l)) (hll : Hid (l.length ≤ 65536)) (hlast : Hid (s.last + 65537 ≤ 4611686018427387904)) (hid : I64 id)
    (hK : ∀ (u2 u4 u5 u6 u10 u11 u13 u38 u39 u40 u41 u42 u43 u44 u45 u46 u47 u48 u49 u50 u51 u52 u53 u54 u55 u56 u57 u58 u59 u60 u61 u62 u63 u64 u65 u66 u67 u68 u69 u70 u71 u72 u73 u74 u75 u76 u77 u78 u79 u80 u81 u82 u83 u84 u85 u86 u87 u88 u89 u90 u91 u92 u93 u94 u95 u96 u97 u98 u99 u100 u101 u102 u103 u104 u105 u106 u107 u108 u109 u110 u111 u112 u113 u114 u115 u116 u117 u118 u119 u120 u121 u122 u123 u124 u125 u126 : Value) (wx : World), Hid (KeepOut w wx g s u4 u5 u6) → K ⟨#[c0, c1, u2, .pointer (some ⟨g, 0, none⟩), u4, u5, u6, c7, .pointer (some ⟨q, 0, none⟩), .int .i64 at0, u10, u11, c12, u13, c14, c15, c16, c17, c18, c19, c20, c21, c22, c23, c24, c25, c26, c27, c28, c29, c30, c31, c32, c33, c34, c35, c36, .int .i64 (r : Int), u38, u39, u40, u41, u42, u43, u44, u45, u46, u47, u48, u49, u50, u51, u52, u53, u54, u55, u56, u57, u58, u59, u60, u61, u62, u63, u64, u65, u66, u67, u68, u69, u70, u71, u72, u73, u74, u75, u76, u77, u78, u79, u80, u81, u82, u83, u84, u85, u86, u87, u88, u89, u90, u91, u92, u93, u94, u95, u96, u97, u98, u99, u100, u101, u102, u103, u104, u105, u106, u107, u108, u109, u110, u111, u112, u113, u114, u115, u116, u117, u118, u119, u120, u121, u122, u123, u124, u125, u126, c127, c128, c129, c130, c131, c132, c133, c134, c135, c136, c137, c138, c139, c140, c141, c142, c143, c144, c145, c146, c147, c148, c149, c150, c151, c152, c153, c154, c155, c156, c157, c158, c159, c160, c161, c162, c163], []⟩ wx) :
    Code.wp Try.prog ((Try.f9.body.bind (blockAt 2)).getD .skip) (Exit.then K Q) ⟨#[c0, c1, c2, .pointer (some ⟨g, 0, none⟩), .slice At s.ms.length ct, .slice Ai s.ids.length ci, .int .i64 s.last, c7, .pointer (some ⟨q, 0, none⟩), .int .i64 at0, c10, c11, c12, c13, c14, c15, c16, c17, c18, c19, c20, c21, c22, c23, c24, c25, c26, c27, c28, c29, c30, c31, c32, c33, c34, c35, c36, .int .i64 (r : Int), c38, c39, c40, c41, c42, c43, c44, c45, c46, c47, c48, c49, c50, c51, c52, c53, c54, c55, c56, c57, c58, c59, c60, c61, c62, c63, c64, c65, c66, c67, c68, c69, c70, c71, c72, c73, c74, c75, c76, c77, c78, c79, c80, c81, c82, c83, c84, c85, c86, c87, c88, c89, c90, c91, c92, c93, c94, c95, c96, c97, c98, c99, c100, c101, c102, c103, c104, c105, c106, c107, c108, c109, c110, c111, c112, c113, c114, c115, c116, c117, c118, c119, c120, c121, c122, c123, c124, c125, c126, c127, c128, c129, c130, c131, c132, c133, c134, c135, c136, c137, c138, c139, c140, c141, c142, c143, c144, c145, c146, c147, c148, c149, c150, c151, c152, c153, c154, c155, c156, c157, c158, c159, c160, c161, c162, c163], []⟩ w := by
  conv => arg 2; whnf
  have hK2 := Lib.hid @hK
  have HID := Lib.hid hid
  have HI64 := Lib.hid (show ∀ x : Int, 0 ≤ x → x ≤ 4611686018427387904 → I64 x from fun x h1 h2 => ⟨by omega, by omega⟩)
  have hneq : ∀ a b : Int, a ≠ b → (a == b) = false := fun a b h => beq_eq_false_iff_ne.2 h
  clear hK hid
  have hq1 : w.cell? ⟨q, 1, none⟩ = some (.int .i64 id) := cell_blk hq.out 1
  rcases (show r = 4 ∨ r = 5 ∨ r = 6 ∨ (r ≠ 4 ∧ r ≠ 5 ∧ r ≠ 6) by omega) with rfl | rfl | rfl | ⟨n4, n5, n6⟩
  · obtain ⟨m, pe, hpe⟩ := asPair (s.peek id)
    have HPE := Lib.hid hpe
    have hat := at_lt id hp.out.1.ok
    have hlen := hp.out.1.ok.len
    have hle := hp.out.1.ok.le
    have HLEN := Lib.hid hlen
    have HLE := Lib.hid hle
    clear hpe hlen hle
    go_wp2_with fail
    refine (NetTake_calls w g _ s id HID.out hp.out.1).mono ?_
    rw [HPE.out]
    rintro e w1 ⟨mv, rfl, hm, hn, hu⟩
    obtain ⟨Ae, ce, Av, cv, Ad, cd, rfl, -⟩ := hm.form
    have HN1 := Lib.hid (hp.out.net hn)
    have HL1 := Lib.hid (hp.out.lists hu)
    have HU1 := Lib.hid hu
    have HM1 := Lib.hid hm
    have HGL := Lib.hid hp.out.1.lt
    clear hn hu hm hneq hq1
    rcases hat with h0 | ⟨i, h0, hi1, hi2⟩
    · have h2 : s.peek id = (zeroM, 130) := by unfold BagS.peek; rw [if_pos (by omega)]
      rw [HPE.out] at h2
      obtain ⟨rfl, rfl⟩ := Prod.mk.inj h2
      have HLO := Lib.hid (show (s.lose id).1 = s by unfold BagS.lose; rw [if_pos (by omega)])
      have hd0 : decide ((0 : Int) ≤ -1) = false := decide_eq_false (by omega)
      have e0 : at0 = -1 := by rw [hat0.out, h0]
      clear h0 h2 hat0
      subst e0
      dsimp only [msgC]
      go_upto_region 22 with fail
      obtain ⟨w2, hw2⟩ : ∃ w2, w2 = w1.alloc (.cells (msgC zeroM (.slice Ae zeroM.entries.length ce) (.slice Av zeroM.voters.length cv) (.slice Ad zeroM.data.length cd)) 26) := ⟨_, rfl⟩
      have HX2 := Lib.hid (show Ext w1 w2 by rw [hw2]; exact (Ext.refl w1).alloc _)
      (try unfold msgC at hw2)
      rw [← hw2]
      clear hw2
      go_quiet (fail)
      have HF := Lib.hid (show KeepOut w (w2.drewN nq) g s (.slice At s.ms.length ct) (.slice Ai s.ids.length ci) (.int .i64 s.last) from
        ⟨s, ⟨At, ct, rfl⟩, ⟨Ai, ci, rfl⟩, rfl, (show KeepR w1 g s _ _ from ⟨by have h := HN1.out; rw [HLO.out] at h; exact h, HL1.out.1, HL1.out.2, hp.out.2.2.2⟩).ext (HX2.out.drewN nq), by omega, HU1.out.trans ((HX2.out.drewN nq).upd _)⟩)
      go_wp2_with fail
      exact hK2.out _ _ _ _ _ _ _ _ _ _ _ _ _ _ _ _ _ _ _ _ _ _ _ _ _ _ _ _ _ _ _ _ _ _ _ _ _ _ _ _ _ _ _ _ _ _ _ _ _ _ _ _ _ _ _ _ _ _ _ _ _ _ _ _ _ _ _ _ _ _ _ _ _ _ _ _ _ _ _ _ _ _ _ _ _ _ _ _ _ _ _ _ _ _ _ _ _  HF
    · have h2 : s.peek id = (s.ms[i], 0) := by unfold BagS.peek; rw [if_neg (by omega), h0]; simp [List.getD, List.getElem?_eq_getElem hi2]
      rw [HPE.out] at h2
      obtain ⟨h3, rfl⟩ := Prod.mk.inj h2
      have HMI := Lib.hid h3
      have HLO := Lib.hid (show (s.lose id).1 = ⟨s.ms.eraseIdx i, s.ids.eraseIdx i, s.last⟩ by unfold BagS.lose; rw [if_neg (by omega), h0]; rfl)
      have HIN := Lib.hid (lose_inc hp.out.2.2.2 id)
      have e0 : at0 = (i : Int) := by rw [hat0.out, h0]
      clear h0 h2 h3 hat0
      subst e0
      dsimp only [msgC]
      go_upto_region 22 with fail
      obtain ⟨w2, hw2⟩ : ∃ w2, w2 = w1.alloc (.cells (msgC m (.slice Ae m.entries.length ce) (.slice Av m.voters.length cv) (.slice Ad m.data.length cd)) 26) := ⟨_, rfl⟩
      obtain ⟨b, hb⟩ : ∃ b, b = w1.heap.size := ⟨_, rfl⟩
      have HX2 := Lib.hid (show Ext w1 w2 by rw [hw2]; exact (Ext.refl w1).alloc _)
      have HB2 := Lib.hid (show w2.heap[b]? = some (.cells (msgC m (.slice Ae m.entries.length ce) (.slice Av m.voters.length cv) (.slice Ad m.data.length cd)) 26 (0, 0)) by rw [hw2]; exact heap_new w1 b hb.symm _)
      (try unfold msgC at hw2)
      rw [← hw2, ← hb]
      clear hw2 hb
      obtain ⟨ad, Ae2, ce2, Av2, cv2, Ad2, cd2, hA, z0, z1, z2, z3, z4, z5, z6, z7, z8, z9, z10, z11, z12, hm2⟩ := (HL1.out.1.ext HX2.out).shape.2.2.2.2.msg hi2
      subst hA
      rw [← HMI.out] at z0 z1 z2 z3 z4 z5 z6 z7 z8 z9 z10 z11 z12 hm2
      refine kp22 b i s.ms.length m _ _ ad _ _ _ _ _ _ ct _ _ _ _ _ _ hi2 HB2 (Lib.hid (fun W hx => ⟨cell_ext z0 hx, cell_ext z1 hx, cell_ext z2 hx, cell_ext z3 hx, cell_ext z4 hx, cell_ext z5 hx, cell_ext z6 hx, cell_ext z7 hx, cell_ext z8 hx, cell_ext z9 hx, cell_ext z10 hx, cell_ext z11 hx, cell_ext z12 hx⟩)) (Lib.hid (HM1.out.ext HX2.out)) (Lib.hid hm2) ?_
      intros
      rename_i w3 hrel
      have HX3 := Lib.hid (HX2.out.trans hrel.out)
      have hwi : IntKind.i64.wrap ((i : Int) + 1) = (i : Int) + 1 := IntWalk.i64_in _ (by have := HLE.out; omega)
      have hi256 : i < 256 := by have := HLE.out; omega
      clear hrel z0 z1 z2 z3 z4 z5 z6 z7 z8 z9 z10 z11 z12 hm2 HM1 HB2 HX2
      go_wp2_with fail
      refine (CloneMsg_calls w3 (· ≠ g) _ s.ms (HL1.out.1.ext HX3.out) (by have := HLE.out; omega)).mono ?_
      rintro e w4 ⟨u, rfl, ho, hx⟩
      have HO4 := Lib.hid ho
      have HX4 := Lib.hid hx
      obtain ⟨A4, n4, c4, e4⟩ : ∃ A n c, u = .slice A n c := by obtain ⟨A, c, e, _⟩ := _root_.id ho.rs; exact ⟨_, _, _, e⟩
      subst e4
      clear ho hx
      go_wp2_with fail
      refine (DelMsg_calls w4 w3.heap.size _ _ s.ms i hi2 HO4.out).mono ?_
      rintro e w5 ⟨u, rfl, ho, -, hu⟩
      have HX5 := Lib.hid (show Ext w3 w5 from hu.ext HX4.out (fun b hb => HO4.out.from_ b hb))
      have HO5 := Lib.hid (show Rs kMsg w5 (fun b => b ≠ g) u (s.ms.eraseIdx i) from ho.rs.mono (fun b hb => by have h1 := HGL.out; have h2 := HU1.out.le; have h3 := HX3.out.le; rcases hb with hb | hb; omega; exact hb))
      obtain ⟨A5, c5, e5, _⟩ := _root_.id ho.rs
      subst e5
      clear ho hu HO4 HX4
      go_wp2_with fail
      refine (CloneI_calls w5 (· ≠ g) _ s.ids (HL1.out.2.ext (HX3.out.trans HX5.out)) (by have := HLE.out; have := HLEN.out; omega)).mono ?_
      rintro e w6 ⟨u, rfl, ho, hx⟩
      have HO6 := Lib.hid ho
      have HX6 := Lib.hid hx
      obtain ⟨A6, n6, c6, e6⟩ : ∃ A n c, u = .slice A n c := by obtain ⟨A, c, e, _⟩ := _root_.id ho.rs; exact ⟨_, _, _, e⟩
      subst e6
      clear ho hx
      go_wp2_with fail
      refine (DelI_calls w6 w5.heap.size _ _ s.ids i hi1 HO6.out).mono ?_
      rintro e w7 ⟨u, rfl, ho, -, hu⟩
      have HX7 := Lib.hid (show Ext w5 w7 from hu.ext HX6.out (fun b hb => HO6.out.from_ b hb))
      have HO7 := Lib.hid (show Rs kInt w7 (fun b => b ≠ g) u (s.ids.eraseIdx i) from ho.rs.mono (fun b hb => by have h1 := HGL.out; have h2 := HU1.out.le; have h3 := HX3.out.le; have h4 := HX5.out.le; have h5 : w5.heap.size ≤ b := hb; omega))
      obtain ⟨A7, c7, e7, _⟩ := _root_.id ho.rs
      subst e7
      clear ho hu HO6 HX6
      have HF := Lib.hid (show KeepOut w w7 g s (.slice A5 (s.ms.eraseIdx i).length c5) (.slice A7 (s.ids.eraseIdx i).length c7) (.int .i64 s.last) from
        ⟨⟨s.ms.eraseIdx i, s.ids.eraseIdx i, s.last⟩, ⟨A5, c5, rfl⟩, ⟨A7, c7, rfl⟩, rfl, ⟨by have h := HN1.out.ext ((HX3.out.trans HX5.out).trans HX7.out); rw [HLO.out] at h; exact h, HO5.out.ext HX7.out, HO7.out, by have h := HIN.out; rw [HLO.out] at h; exact h⟩, by show s.last ≤ _; omega, HU1.out.trans (((HX3.out.trans HX5.out).trans HX7.out).upd _)⟩)
      go_wp2_with fail
      exact hK2.out _ _ _ _ _ _ _ _ _ _ _ _ _ _ _ _ _ _ _ _ _ _ _ _ _ _ _ _ _ _ _ _ _ _ _ _ _ _ _ _ _ _ _ _ _ _ _ _ _ _ _ _ _ _ _ _ _ _ _ _ _ _ _ _ _ _ _ _ _ _ _ _ _ _ _ _ _ _ _ _ _ _ _ _ _ _ _ _ _ _ _ _ _ _ _ _ _  HF
  · obtain ⟨m, pe, hpe⟩ := asPair (s.peek id)
    have HPE := Lib.hid hpe
    have hat := at_lt id hp.out.1.ok
    have hlen := hp.out.1.ok.len
    have hle := hp.out.1.ok.le
    have HLEN := Lib.hid hlen
    have HLE := Lib.hid hle
    clear hpe hlen hle
    go_wp2_with fail
    refine (NetTake_calls w g _ s id HID.out hp.out.1).mono ?_
    rw [HPE.out]
    rintro e w1 ⟨mv, rfl, hm, hn, hu⟩
    obtain ⟨Ae, ce, Av, cv, Ad, cd, rfl, -⟩ := hm.form
    have HN1 := Lib.hid (hp.out.net hn)
    have HL1 := Lib.hid (hp.out.lists hu)
    have HU1 := Lib.hid hu
    have HM1 := Lib.hid hm
    have HGL := Lib.hid hp.out.1.lt
    clear hn hu hm hneq hq1
    rcases hat with h0 | ⟨i, h0, hi1, hi2⟩
    · have h2 : s.peek id = (zeroM, 130) := by unfold BagS.peek; rw [if_pos (by omega)]
      rw [HPE.out] at h2
      obtain ⟨rfl, rfl⟩ := Prod.mk.inj h2
      have HLO := Lib.hid (show (s.lose id).1 = s by unfold BagS.lose; rw [if_pos (by omega)])
      have hd0 : decide ((0 : Int) ≤ -1) = false := decide_eq_false (by omega)
      have e0 : at0 = -1 := by rw [hat0.out, h0]
      clear h0 h2 hat0
      subst e0
      dsimp only [msgC]
      go_upto_region 22 with fail
      obtain ⟨w2, hw2⟩ : ∃ w2, w2 = w1.alloc (.cells (msgC zeroM (.slice Ae zeroM.entries.length ce) (.slice Av zeroM.voters.length cv) (.slice Ad zeroM.data.length cd)) 26) := ⟨_, rfl⟩
      have HX2 := Lib.hid (show Ext w1 w2 by rw [hw2]; exact (Ext.refl w1).alloc _)
      (try unfold msgC at hw2)
      rw [← hw2]
      clear hw2
      go_quiet (fail)
      have HF := Lib.hid (show KeepOut w (w2.drewN nq) g s (.slice At s.ms.length ct) (.slice Ai s.ids.length ci) (.int .i64 s.last) from
        ⟨s, ⟨At, ct, rfl⟩, ⟨Ai, ci, rfl⟩, rfl, (show KeepR w1 g s _ _ from ⟨by have h := HN1.out; rw [HLO.out] at h; exact h, HL1.out.1, HL1.out.2, hp.out.2.2.2⟩).ext (HX2.out.drewN nq), by omega, HU1.out.trans ((HX2.out.drewN nq).upd _)⟩)
      go_wp2_with fail
      exact hK2.out _ _ _ _ _ _ _ _ _ _ _ _ _ _ _ _ _ _ _ _ _ _ _ _ _ _ _ _ _ _ _ _ _ _ _ _ _ _ _ _ _ _ _ _ _ _ _ _ _ _ _ _ _ _ _ _ _ _ _ _ _ _ _ _ _ _ _ _ _ _ _ _ _ _ _ _ _ _ _ _ _ _ _ _ _ _ _ _ _ _ _ _ _ _ _ _ _  HF
    · have h2 : s.peek id = (s.ms[i], 0) := by unfold BagS.peek; rw [if_neg (by omega), h0]; simp [List.getD, List.getElem?_eq_getElem hi2]
      rw [HPE.out] at h2
      obtain ⟨h3, rfl⟩ := Prod.mk.inj h2
      have HMI := Lib.hid h3
      have HLO := Lib.hid (show (s.lose id).1 = ⟨s.ms.eraseIdx i, s.ids.eraseIdx i, s.last⟩ by unfold BagS.lose; rw [if_neg (by omega), h0]; rfl)
      have HIN := Lib.hid (lose_inc hp.out.2.2.2 id)
      have e0 : at0 = (i : Int) := by rw [hat0.out, h0]
      clear h0 h2 h3 hat0
      subst e0
      dsimp only [msgC]
      go_upto_region 22 with fail
      obtain ⟨w2, hw2⟩ : ∃ w2, w2 = w1.alloc (.cells (msgC m (.slice Ae m.entries.length ce) (.slice Av m.voters.length cv) (.slice Ad m.data.length cd)) 26) := ⟨_, rfl⟩
      obtain ⟨b, hb⟩ : ∃ b, b = w1.heap.size := ⟨_, rfl⟩
      have HX2 := Lib.hid (show Ext w1 w2 by rw [hw2]; exact (Ext.refl w1).alloc _)
      have HB2 := Lib.hid (show w2.heap[b]? = some (.cells (msgC m (.slice Ae m.entries.length ce) (.slice Av m.voters.length cv) (.slice Ad m.data.length cd)) 26 (0, 0)) by rw [hw2]; exact heap_new w1 b hb.symm _)
      (try unfold msgC at hw2)
      rw [← hw2, ← hb]
      clear hw2 hb
      obtain ⟨ad, Ae2, ce2, Av2, cv2, Ad2, cd2, hA, z0, z1, z2, z3, z4, z5, z6, z7, z8, z9, z10, z11, z12, hm2⟩ := (HL1.out.1.ext HX2.out).shape.2.2.2.2.msg hi2
      subst hA
      rw [← HMI.out] at z0 z1 z2 z3 z4 z5 z6 z7 z8 z9 z10 z11 z12 hm2
      refine kp22 b i s.ms.length m _ _ ad _ _ _ _ _ _ ct _ _ _ _ _ _ hi2 HB2 (Lib.hid (fun W hx => ⟨cell_ext z0 hx, cell_ext z1 hx, cell_ext z2 hx, cell_ext z3 hx, cell_ext z4 hx, cell_ext z5 hx, cell_ext z6 hx, cell_ext z7 hx, cell_ext z8 hx, cell_ext z9 hx, cell_ext z10 hx, cell_ext z11 hx, cell_ext z12 hx⟩)) (Lib.hid (HM1.out.ext HX2.out)) (Lib.hid hm2) ?_
      intros
      rename_i w3 hrel
      have HX3 := Lib.hid (HX2.out.trans hrel.out)
      have hwi : IntKind.i64.wrap ((i : Int) + 1) = (i : Int) + 1 := IntWalk.i64_in _ (by have := HLE.out; omega)
      have hi256 : i < 256 := by have := HLE.out; omega
      clear hrel z0 z1 z2 z3 z4 z5 z6 z7 z8 z9 z10 z11 z12 hm2 HM1 HB2 HX2
      go_wp2_with fail
      refine (CloneMsg_calls w3 (· ≠ g) _ s.ms (HL1.out.1.ext HX3.out) (by have := HLE.out; omega)).mono ?_
      rintro e w4 ⟨u, rfl, ho, hx⟩
      have HO4 := Lib.hid ho
      have HX4 := Lib.hid hx
      obtain ⟨A4, n4, c4, e4⟩ : ∃ A n c, u = .slice A n c := by obtain ⟨A, c, e, _⟩ := _root_.id ho.rs; exact ⟨_, _, _, e⟩
      subst e4
      clear ho hx
      go_wp2_with fail
      refine (DelMsg_calls w4 w3.heap.size _ _ s.ms i hi2 HO4.out).mono ?_
      rintro e w5 ⟨u, rfl, ho, -, hu⟩
      have HX5 := Lib.hid (show Ext w3 w5 from hu.ext HX4.out (fun b hb => HO4.out.from_ b hb))
      have HO5 := Lib.hid (show Rs kMsg w5 (fun b => b ≠ g) u (s.ms.eraseIdx i) from ho.rs.mono (fun b hb => by have h1 := HGL.out; have h2 := HU1.out.le; have h3 := HX3.out.le; rcases hb with hb | hb; omega; exact hb))
      obtain ⟨A5, c5, e5, _⟩ := _root_.id ho.rs
      subst e5
      clear ho hu HO4 HX4
      go_wp2_with fail
      refine (CloneI_calls w5 (· ≠ g) _ s.ids (HL1.out.2.ext (HX3.out.trans HX5.out)) (by have := HLE.out; have := HLEN.out; omega)).mono ?_
      rintro e w6 ⟨u, rfl, ho, hx⟩
      have HO6 := Lib.hid ho
      have HX6 := Lib.hid hx
      obtain ⟨A6, n6, c6, e6⟩ : ∃ A n c, u = .slice A n c := by obtain ⟨A, c, e, _⟩ := _root_.id ho.rs; exact ⟨_, _, _, e⟩
      subst e6
      clear ho hx
      go_wp2_with fail
      refine (DelI_calls w6 w5.heap.size _ _ s.ids i hi1 HO6.out).mono ?_
      rintro e w7 ⟨u, rfl, ho, -, hu⟩
      have HX7 := Lib.hid (show Ext w5 w7 from hu.ext HX6.out (fun b hb => HO6.out.from_ b hb))
      have HO7 := Lib.hid (show Rs kInt w7 (fun b => b ≠ g) u (s.ids.eraseIdx i) from ho.rs.mono (fun b hb => by have h1 := HGL.out; have h2 := HU1.out.le; have h3 := HX3.out.le; have h4 := HX5.out.le; have h5 : w5.heap.size ≤ b := hb; omega))
      obtain ⟨A7, c7, e7, _⟩ := _root_.id ho.rs
      subst e7
      clear ho hu HO6 HX6
      have HF := Lib.hid (show KeepOut w w7 g s (.slice A5 (s.ms.eraseIdx i).length c5) (.slice A7 (s.ids.eraseIdx i).length c7) (.int .i64 s.last) from
        ⟨⟨s.ms.eraseIdx i, s.ids.eraseIdx i, s.last⟩, ⟨A5, c5, rfl⟩, ⟨A7, c7, rfl⟩, rfl, ⟨by have h := HN1.out.ext ((HX3.out.trans HX5.out).trans HX7.out); rw [HLO.out] at h; exact h, HO5.out.ext HX7.out, HO7.out, by have h := HIN.out; rw [HLO.out] at h; exact h⟩, by show s.last ≤ _; omega, HU1.out.trans (((HX3.out.trans HX5.out).trans HX7.out).upd _)⟩)
      go_wp2_with fail
      exact hK2.out _ _ _ _ _ _ _ _ _ _ _ _ _ _ _ _ _ _ _ _ _ _ _ _ _ _ _ _ _ _ _ _ _ _ _ _ _ _ _ _ _ _ _ _ _ _ _ _ _ _ _ _ _ _ _ _ _ _ _ _ _ _ _ _ _ _ _ _ _ _ _ _ _ _ _ _ _ _ _ _ _ _ _ _ _ _ _ _ _ _ _ _ _ _ _ _ _  HF
  · have HLEN := Lib.hid hp.out.1.ok.len
    have HLE := Lib.hid hp.out.1.ok.le
    have HDC := Lib.hid (double_cases s hp.out.1.ok id)
    have HGL := Lib.hid hp.out.1.lt
    go_wp2_with fail
    refine (NetDouble_calls w g _ s id HID.out (by have := hlast.out; omega) hp.out.1).mono ?_
    rintro e w1 ⟨rfl, hn, hu⟩
    have HN1 := Lib.hid (hp.out.net hn)
    have HL1 := Lib.hid (hp.out.lists hu)
    have HU1 := Lib.hid hu
    have HIN := Lib.hid (double_inc hp.out.1.ok hp.out.2.2.2 id)
    clear hn hu
    rcases HDC.out with ⟨h1, h2⟩ | ⟨i, hi, h1, h2, h3⟩
    · have hc := hneq ((s.double id).2 : Int) 0 (by omega)
      have HF := Lib.hid (show KeepOut w w1 g s (.slice At s.ms.length ct) (.slice Ai s.ids.length ci) (.int .i64 s.last) from
        ⟨s, ⟨At, ct, rfl⟩, ⟨Ai, ci, rfl⟩, rfl, ⟨by have h := HN1.out; rw [h2] at h; exact h, HL1.out.1, HL1.out.2, hp.out.2.2.2⟩, by omega, HU1.out⟩)
      clear h1 h2 HDC hq1 hneq
      go_wp2_with fail
      exact hK2.out _ _ _ _ _ _ _ _ _ _ _ _ _ _ _ _ _ _ _ _ _ _ _ _ _ _ _ _ _ _ _ _ _ _ _ _ _ _ _ _ _ _ _ _ _ _ _ _ _ _ _ _ _ _ _ _ _ _ _ _ _ _ _ _ _ _ _ _ _ _ _ _ _ _ _ _ _ _ _ _ _ _ _ _ _ _ _ _ _ _ _ _ _ _ _ _ _  HF
    · have e0 : at0 = (i : Int) := by rw [hat0.out, h2]
      clear hat0
      subst e0
      rw [h1]
      have H3 := Lib.hid h3
      have hlo := hp.out.1.ok.lo
      have hla := hlast.out
      clear h1 h2 h3 HDC hq1 hneq
      go_upto_region 29 with fail
      obtain ⟨ad, Ae, ce, Av, cv, Ad, cd, hA, z0, z1, z2, z3, z4, z5, z6, z7, z8, z9, z10, z11, z12, hm2⟩ := HL1.out.1.shape.2.2.2.2.msg hi
      subst hA
      have HM := Lib.hid (show s.ms[i] = s.ms[i] from rfl)
      refine kp29 g s s.ms[i] ad Ai Ae Av Ad ct ci ce cv cd (s.last + 1) (Lib.hid HL1.out.1) (Lib.hid HL1.out.2) (Lib.hid hm2) HLE.out (by have := HLE.out; have := HLEN.out; omega) (HI64.out _ (by omega) (by omega)) (Nat.lt_of_lt_of_le HGL.out HU1.out.le) i hi (Lib.hid (fun W hx => ⟨cell_ext z0 hx, cell_ext z1 hx, cell_ext z2 hx, cell_ext z3 hx, cell_ext z4 hx, cell_ext z5 hx, cell_ext z6 hx, cell_ext z7 hx, cell_ext z8 hx, cell_ext z9 hx, cell_ext z10 hx, cell_ext z11 hx, cell_ext z12 hx⟩)) ?_
      intros
      rename_i u4 u5 _ _ _ _ _ _ _ _ _ _ _ _ _ w2 hrel
      obtain ⟨A4, c4, e4, -⟩ := _root_.id hrel.out.1
      obtain ⟨A5, c5, e5, -⟩ := _root_.id hrel.out.2.1
      have HF := Lib.hid (show KeepOut w w2 g s u4 u5 (.int .i64 (s.last + 1)) from
        ⟨⟨s.ms ++ [s.ms[i]], s.ids ++ [s.last + 1], s.last + 1⟩, ⟨A4, c4, e4⟩, ⟨A5, c5, e5⟩, rfl, ⟨by have h := HN1.out.ext hrel.out.2.2; rw [H3.out] at h; exact h, hrel.out.1, hrel.out.2.1, by have h := HIN.out; rw [H3.out] at h; exact h⟩, by show s.last + 1 ≤ _; omega, HU1.out.trans (hrel.out.2.2.upd _)⟩)
      clear z0 z1 z2 z3 z4 z5 z6 z7 z8 z9 z10 z11 z12 hm2 hrel e4 e5
      go_wp2_with fail
      exact hK2.out _ _ _ _ _ _ _ _ _ _ _ _ _ _ _ _ _ _ _ _ _ _ _ _ _ _ _ _ _ _ _ _ _ _ _ _ _ _ _ _ _ _ _ _ _ _ _ _ _ _ _ _ _ _ _ _ _ _ _ _ _ _ _ _ _ _ _ _ _ _ _ _ _ _ _ _ _ _ _ _ _ _ _ _ _ _ _ _ _ _ _ _ _ _ _ _ _  HF
  · have h4 := hneq (r : Int) 4 (by omega)
    have h5 := hneq (r : Int) 5 (by omega)
    have h6 := hneq (r : Int) 6 (by omega)
    have hq2 : w.cell? ⟨q, 2, none⟩ = some (.slice Al l.length cl) := cell_blk hq.out 2
    have hlen := hll.out
    clear hneq n4 n5 n6 hr7 hq1
    go_wp2_with fail
    clear h4 h5 h6 hq2
    go_loopw [4, 5, 6, 41] (fun vt vi vn i wr => ∃ (k : Nat) (s1 : BagS), k ≤ l.length ∧ i = .int .i64 k ∧ vn = .int .i64 s1.last ∧ Hid (KeepR wr g s1 vt vi) ∧ Hid (s1.last ≤ s.last + (k : Int)) ∧ Hid (Upd (fun b => b = g) w wr)) (fun _ _ _ i _ => l.length - (intOf i).toNat)
    case atStart => exact ⟨0, s, Nat.zero_le _, rfl, rfl, hp, Lib.hid (by omega), Lib.hid (Upd.refl _ _)⟩
    case round =>
      obtain ⟨k, s1, hk, rfl, rfl, HP, HS, HU⟩ := hrel
      obtain ⟨At1, ct1, e4, -⟩ := _root_.id HP.out.2.1
      obtain ⟨Ai1, ci1, e5, -⟩ := _root_.id HP.out.2.2.1
      subst e4
      subst e5
      by_cases hlt : k < l.length
      · obtain ⟨ad, Ae, ce, Av, cv, Ad, cd, rfl, z0, z1, z2, z3, z4, z5, z6, z7, z8, z9, z10, z11, z12, hm⟩ := (hl.out.upd HU.out (fun b hb e => by have h1 : b < n0 := hb; have h2 := hne.out; have h3 : b = g := e; omega)).shape.2.2.2.2.msg hlt
        have HM1 := Lib.hid (hm.mono (S' := fun b => b ≠ g) (fun b hb e => by have h1 : b < n0 := hb; have h2 := hne.out; omega))
        clear hm
        generalize l[k] = m at z0 z1 z2 z3 z4 z5 z6 z7 z8 z9 z10 z11 z12 HM1
        go_upto_region 15 with fail
        obtain ⟨wa, hwa⟩ : ∃ wa, wa = wr.alloc (.cells (msgC m (.slice Ae m.entries.length ce) (.slice Av m.voters.length cv) (.slice Ad m.data.length cd)) 26) := ⟨_, rfl⟩
        obtain ⟨b, hb⟩ : ∃ b, b = wr.heap.size := ⟨_, rfl⟩
        have HBa := Lib.hid (show wa.heap[b]? = some (.cells (msgC m (.slice Ae m.entries.length ce) (.slice Av m.voters.length cv) (.slice Ad m.data.length cd)) 26 (0, 0)) by rw [hwa]; exact heap_new wr b hb.symm _)
        have HXa := Lib.hid (show Ext wr wa by rw [hwa]; exact (Ext.refl wr).alloc _)
        have HGB := Lib.hid (show g < b by rw [hb]; exact HP.out.1.lt)
        unfold msgC at hwa
        rw [← hwa, ← hb]
        clear hwa hb z0 z1 z2 z3 z4 z5 z6 z7 z8 z9 z10 z11 z12
        obtain ⟨⟨x0, x1, x2, x3, x4, x5, x6, x7, x8, x9, x10, x11, x12⟩, -⟩ := msg_cells HBa.out
        go_wp2_with fail
        obtain ⟨wb, hwb⟩ : ∃ wb, wb = wa.alloc (.cells (msgC m (.slice Ae m.entries.length ce) (.slice Av m.voters.length cv) (.slice Ad m.data.length cd)) 26) := ⟨_, rfl⟩
        have HBb := Lib.hid (show wb.heap[wa.heap.size]? = some (.cells (msgC m (.slice Ae m.entries.length ce) (.slice Av m.voters.length cv) (.slice Ad m.data.length cd)) 26 (0, 0)) by rw [hwb]; exact heap_new wa _ rfl _)
        have hxb : Ext wa wb := by rw [hwb]; exact (Ext.refl wa).alloc _
        have HXb := Lib.hid (HXa.out.trans hxb)
        have HQb := Lib.hid (blk_ext HBa.out hxb)
        have HGA := Lib.hid (show ¬ wa.heap.size = g by have h1 := HP.out.1.lt; have h2 := HXa.out.le; omega)
        have HKb := Lib.hid (HP.out.ext HXb.out)
        have HUb := Lib.hid (HU.out.trans (HXb.out.upd _))
        have HMb := Lib.hid (HM1.out.ext HXb.out)
        unfold msgC at hwb
        rw [← hwb]
        clear hwb hxb x0 x1 x2 x3 x4 x5 x6 x7 x8 x9 x10 x11 x12 HBa HXa HXb HM1 HP HU
        refine (NetSend_calls wb g _ (fun b => b ≠ g) s1 _ [m] (by have h1 := HS.out; have h2 := hlast.out; have h3 := hll.out; simp; omega) HKb.out.1 (fun h => h rfl) (Rs.one_msg HBb.out HGA.out HMb.out)).mono ?_
        rintro e w3 ⟨rfl, hn, hu⟩
        have HN3 := Lib.hid (HKb.out.net hn)
        have HL3 := Lib.hid (HKb.out.lists hu)
        have HU3 := Lib.hid (HUb.out.trans hu)
        have HQ3 := Lib.hid (blk_upd HQb.out hu (show ¬ b = g by have := HGB.out; omega))
        have HM3 := Lib.hid (HMb.out.keep fun c hc hl => hu.block c hl hc)
        have HG3 := Lib.hid (show g < w3.heap.size from Nat.lt_of_lt_of_le HKb.out.1.lt hu.le)
        have HIN := Lib.hid (show Inc (s1.send [m]).1 from step_inc (a := (s1, 0)) HKb.out.1.ok HKb.out.2.2.2 m)
        have HLEN := Lib.hid HKb.out.1.ok.len
        have HLE := Lib.hid HKb.out.1.ok.le
        have hlo := HKb.out.1.ok.lo
        have hla : s1.last ≤ 4611686018427387904 - 1 := by have h1 := HS.out; have h2 := hlast.out; have h3 := hll.out; omega
        clear hn hu HKb HUb HMb HQb HBb HGA
        by_cases hc : chkM m = true ∧ s1.ms.length < 256
        · have HSE := Lib.hid (show s1.send [m] = (⟨s1.ms ++ [m], s1.ids ++ [s1.last + 1], s1.last + 1⟩, 1) by rw [send1]; unfold BagS.step; rw [if_pos hc])
          rw [HSE.out]
          clear hc
          dsimp only
          go_upto_region 17 with fail
          refine kp17 g s1 m At1 Ai1 Ae Av Ad ct1 ci1 ce cv cd (s1.last + 1) (Lib.hid HL3.out.1) (Lib.hid HL3.out.2) HM3 HLE.out (by have := HLE.out; have := HLEN.out; omega) (HI64.out _ (by omega) (by omega)) HG3.out b HQ3 ?_
          intros
          rename_i u4 u5 _ _ _ _ _ _ _ _ _ _ w4 hrel
          have HK4 := Lib.hid (show KeepR w4 g ⟨s1.ms ++ [m], s1.ids ++ [s1.last + 1], s1.last + 1⟩ u4 u5 from ⟨by have h := HN3.out.ext hrel.out.2.2; rw [HSE.out] at h; exact h, hrel.out.1, hrel.out.2.1, by have h := HIN.out; rw [HSE.out] at h; exact h⟩)
          have HU4 := Lib.hid (HU3.out.trans (hrel.out.2.2.upd _))
          have HS4 := Lib.hid (show s1.last + 1 ≤ s.last + ((k + 1 : Nat) : Int) by have := HS.out; omega)
          clear hrel HSE HN3 HL3 HU3 HQ3 HM3 HIN HS
          go_wp2_with fail
          go_roundw
          case rel => exact ⟨k + 1, _, by omega, by go_num, rfl, HK4, HS4, HU4⟩
          case measure => simp [intOf]; omega
        · have HSE := Lib.hid (show s1.send [m] = (s1, 0) by rw [send1]; unfold BagS.step; rw [if_neg hc])
          rw [HSE.out]
          clear hc
          dsimp only
          have HK4 := Lib.hid (show KeepR w3 g s1 (.slice At1 s1.ms.length ct1) (.slice Ai1 s1.ids.length ci1) from ⟨by have h := HN3.out; rw [HSE.out] at h; exact h, HL3.out.1, HL3.out.2, by have h := HIN.out; rw [HSE.out] at h; exact h⟩)
          have HS4 := Lib.hid (show s1.last ≤ s.last + ((k + 1 : Nat) : Int) by have := HS.out; omega)
          clear HSE HN3 HL3 HQ3 HM3 HIN HS
          go_wp2_with fail
          go_roundw
          case rel => exact ⟨k + 1, _, by omega, by go_num, rfl, HK4, HS4, HU3⟩
          case measure => simp [intOf]; omega
      · obtain rfl : k = l.length := by omega
        clear hlt
        have HF := Lib.hid (show KeepOut w wr g s (.slice At1 s1.ms.length ct1) (.slice Ai1 s1.ids.length ci1) (.int .i64 s1.last) from
          ⟨s1, ⟨At1, ct1, rfl⟩, ⟨Ai1, ci1, rfl⟩, rfl, HP.out, by have := HS.out; omega, HU.out⟩)
        go_wp2_with fail
        exact hK2.out _ _ _ _ _ _ _ _ _ _ _ _ _ _ _ _ _ _ _ _ _ _ _ _ _ _ _ _ _ _ _ _ _ _ _ _ _ _ _ _ _ _ _ _ _ _ _ _ _ _ _ _ _ _ _ _ _ _ _ _ _ _ _ _ _ _ _ _ _ _ _ _ _ _ _ _ _ _ _ _ _ _ _ _ _ _ _ _ _ _ _ _ _ _ _ _ _  HF
end Go.Proofs.Ytfflcnlgkbgbhaa
set_option linter.unusedVariables false
set_option linter.unusedSimpArgs false
namespace Go.Proofs.Ytfflcnlgkbgbhaa
open Go.RowKit

theorem rem7k (op : Int) : ∃ r : Nat, wrap64 ((IntKind.u64.wrap op).tmod 7) = (r : Int) ∧ r < 7 := by
  have hq : 0 ≤ IntKind.u64.wrap op := by rw [IntKind.wrap_u64]; omega
  rw [Int.tmod_eq_emod_of_nonneg hq]
  have h3 := Int.emod_nonneg (IntKind.u64.wrap op) (show (7 : Int) ≠ 0 by omega)
  have h4 := Int.emod_lt_of_pos (IntKind.u64.wrap op) (show (0 : Int) < 7 by omega)
  generalize (IntKind.u64.wrap op) % 7 = r at h3 h4
  have e1 : wrap64 r = r := IntWalk.wrap64_in _ (by omega)
  rw [e1]
  exact ⟨r.toNat, by omega, by omega⟩

set_option maxRecDepth 1000000 in
set_option maxHeartbeats 16000000 in
theorem NetKeeps_walk (w : World) (S : Nat → Prop) (v : Value) (l : List DoS) (hr : Rs kDo w S v l) :
    Calls Try.prog 9 #[v] w fun e w' => e = .returned (.bool true) ∧ Ext w w' := by
  have HR := Lib.hid hr.under
  obtain ⟨A, c, rfl, -, -, hz, -⟩ := hr
  go_enter Try.func9, Try.ntmps9
  go_wp2_with fail
  refine (short_calls w _ _ l HR.out).mono ?_
  rintro e w1 ⟨⟨b, rfl, hb⟩, n1, hw1⟩
  have HX1 := Lib.hid (show Ext w w1 by rw [hw1]; exact (Ext.refl w).drewN n1)
  clear hw1
  cases b
  · clear hb
    go_wp2_with fail
    refine (awake_calls w1).mono ?_
    rintro e w2 ⟨rfl, hx⟩
    have HX2 := Lib.hid (HX1.out.trans hx)
    clear hx
    go_wp2_with fail
    go_ret
    exact ⟨rfl, HX2.out⟩
  · have HB := Lib.hid (hb rfl)
    have h400 : l.length ≤ 400 := (hb rfl).1
    clear hb hz
    go_wp2_with fail
    refine (NetNew_calls w1).mono ?_
    rintro e w2 ⟨rfl, hn, hx⟩
    obtain ⟨g, hg⟩ : ∃ g, g = w1.heap.size := ⟨_, rfl⟩
    rw [← hg] at hn ⊢
    have HK2 := Lib.hid (show KeepR w2 g bag0 (.slice none 0 0) (.slice none 0 0) from ⟨hn.mono (fun b hb => hb.elim) (fun h => h rfl), Rs.nil _ _ _, Rs.nil _ _ _, inc0⟩)
    have HX2 := Lib.hid (HX1.out.trans hx)
    have HGW := Lib.hid (show w.heap.size ≤ g by rw [hg]; exact HX1.out.le)
    clear hn hx hg HX1
    go_wp2_with fail
    go_loopw [4, 5, 6, 25] (fun vt vi vn i wr => ∃ (k : Nat) (s : BagS), k ≤ l.length ∧ i = .int .i64 k ∧ vn = .int .i64 s.last ∧ Hid (KeepR wr g s vt vi) ∧ Hid (s.last ≤ 65536 * (k : Int)) ∧ Hid (Ext w wr)) (fun _ _ _ i _ => l.length - (intOf i).toNat)
    case atStart => exact ⟨0, bag0, Nat.zero_le _, rfl, rfl, HK2, Lib.hid (by show (0 : Int) ≤ _; omega), HX2⟩
    case round =>
      clear HK2 HX2
      obtain ⟨k, s, hk, rfl, rfl, HP, HS, HX⟩ := hrel
      obtain ⟨At, ct, e4, -⟩ := _root_.id HP.out.2.1
      obtain ⟨Ai, ci, e5, -⟩ := _root_.id HP.out.2.2.1
      subst e4
      subst e5
      by_cases hlt : k < l.length
      · obtain ⟨ad, Al, cl, rfl, a0, a1, a2, hrl, hop, hid⟩ := (HR.out.ext HX.out).shape.2.2.2.2.do_ hlt
        have HL := Lib.hid hrl
        have HID := Lib.hid hid
        have HLD := Lib.hid (show l[k].l.length ≤ 65536 from (HB.out.2 _ (List.getElem_mem hlt)).1)
        clear hrl hop hid
        generalize l[k].l = ml at a2 HL HLD
        generalize l[k].op = op at a0
        generalize l[k].id = id at a1 HID
        go_upto_region 10 with fail
        obtain ⟨wa, hwa⟩ : ∃ wa, wa = wr.alloc (.cells #[.int .i64 op, .int .i64 id, .slice Al ml.length cl] 52) := ⟨_, rfl⟩
        obtain ⟨q, hq⟩ : ∃ q, q = wr.heap.size := ⟨_, rfl⟩
        have HXa := Lib.hid (show Ext wr wa by rw [hwa]; exact (Ext.refl wr).alloc _)
        have HQ := Lib.hid (show wa.heap[q]? = some (.cells #[.int .i64 op, .int .i64 id, .slice Al ml.length cl] 52 (0, 0)) by rw [hwa]; exact heap_new wr q hq.symm _)
        have HNE := Lib.hid (show w.heap.size ≤ g ∧ g < q from ⟨HGW.out, by rw [hq]; exact HP.out.1.lt⟩)
        have HPa := Lib.hid (HP.out.ext HXa.out)
        have HXW := Lib.hid (HX.out.trans HXa.out)
        have HLa := Lib.hid (HL.out.ext HXa.out)
        have HSL := Lib.hid (show s.last + 65537 ≤ 4611686018427387904 by have := HS.out; omega)
        rw [← hwa, ← hq]
        clear hwa hq a0 a1 a2 HL HXa HP HX
        have hq0 : wa.cell? ⟨q, 0, none⟩ = some (.int .i64 op) := cell_blk HQ.out 0
        have hq1 : wa.cell? ⟨q, 1, none⟩ = some (.int .i64 id) := cell_blk HQ.out 1
        go_wp2_with fail
        refine (IndexI_calls wa _ _ s.ids id HPa.out.2.2.1).mono ?_
        rintro e w' ⟨rfl, rfl⟩
        obtain ⟨at0, hat0⟩ : ∃ a, a = idxI s.ids id := ⟨_, rfl⟩
        rw [← hat0]
        have HAT := Lib.hid (show at0 = s.at_ id from hat0)
        clear hat0
        obtain ⟨r, hr, hr7⟩ := rem7k op
        go_upto_block 2 with fail
        rw [hr]
        clear hq0 hq1 hr
        refine kpSw g q w.heap.size s op id Al At Ai cl ct ci ml r at0 HAT hr7 HPa HQ HNE HLa HLD HSL HID.out ?_
        intros
        rename_i wx hrel
        obtain ⟨s', ⟨At', ct', rfl⟩, ⟨Ai', ci', rfl⟩, rfl, hp, hlast, hu⟩ := hrel.out
        have HPx := Lib.hid hp
        have HSx := Lib.hid (show s'.last ≤ 65536 * ((k + 1 : Nat) : Int) by have := HS.out; omega)
        have HXx := Lib.hid (show Ext w wx from hu.ext HXW.out (fun b hb => by have h := HNE.out; have h2 : b = g := hb; omega))
        have h256 : s'.ids.length ≤ 256 := by have h1 := hp.1.ok.len; have h2 := hp.1.ok.le; omega
        clear hrel hp hlast hu HQ HPa HNE HXW HLa HSL HS HLD HID hr7 HAT
        go_wp2_with fail
        refine (NetList_calls wx g _ s' HPx.out.1).mono ?_
        rintro e w4 ⟨u, rfl, ho, hx⟩
        obtain ⟨A4, c4, e4, -, -, -, -⟩ := _root_.id ho.rs
        subst e4
        have HR4 := Lib.hid ho.rs
        have HX4 := Lib.hid hx
        clear ho hx
        go_wp2_with fail
        refine (EqualI_calls w4 _ _ _ _ s'.ids s'.ids HR4.out (HPx.out.2.2.1.ext HX4.out)).mono ?_
        rw [eqL_self]
        rintro e w6 ⟨rfl, n6, hw6⟩
        have HX6 := Lib.hid (show Ext wx w6 by rw [hw6]; exact HX4.out.drewN n6)
        have HPe := Lib.hid (HPx.out.ext HX6.out)
        have HXe := Lib.hid (HXx.out.trans HX6.out)
        have hd6 : decide ((256 : Int) < (s'.ids.length : Int)) = false := decide_eq_false (by omega)
        have hn6 : ¬ (256 : Int) < (s'.ids.length : Int) := by omega
        clear hw6 HR4 HX4 HX6 HPx HXx
        go_wp2_with fail
        go_roundw
        case rel => exact ⟨k + 1, s', by omega, by go_num, rfl, HPe, HSx, HXe⟩
        case measure => simp [intOf]; omega
      · obtain rfl : k = l.length := by omega
        clear hlt
        have h256 : s.ids.length ≤ 256 := by have h1 := HP.out.1.ok.len; have h2 := HP.out.1.ok.le; omega
        have HLEN := Lib.hid HP.out.1.ok.len
        go_wp2_with fail
        go_loopw [140] (fun i wr => ∃ k : Nat, k ≤ s.ids.length ∧ i = .int .i64 k ∧ Hid (KeepR wr g s (.slice At s.ms.length ct) (.slice Ai s.ids.length ci)) ∧ Hid (Ext w wr)) (fun i _ => s.ids.length - (intOf i).toNat)
        case atStart => exact ⟨0, Nat.zero_le _, rfl, HP, HX⟩
        case round =>
          clear HP HX
          obtain ⟨j, hj, rfl, HP, HX⟩ := hrel
          by_cases hjl : j < s.ids.length
          · have hjm : j < s.ms.length := by have := HLEN.out; omega
            obtain ⟨ai, hai, hci, hii⟩ := HP.out.2.2.1.shape.2.2.2.2.int hjl
            subst hai
            have HAT := Lib.hid (show s.at_ s.ids[j] = (j : Int) from idx_self HP.out.2.2.2 hjl)
            have HPE := Lib.hid (show s.peek s.ids[j] = (s.ms[j], 0) by unfold BagS.peek; rw [HAT.out, if_neg (by omega)]; simp [List.getD, List.getElem?_eq_getElem hjm])
            have HII := Lib.hid hii
            have HJM := Lib.hid hjm
            clear hii HAT
            generalize s.ids[j] = id at hci HPE HII
            go_wp2_with fail
            refine (NetPeek_calls wr g _ s id HII.out HP.out.1).mono ?_
            rw [HPE.out]
            rintro e w2 ⟨mv, rfl, hm, hx⟩
            have HM2 := Lib.hid hm
            have HX2 := Lib.hid hx
            obtain ⟨Ae, ce, Av, cv, Ad, cd, rfl, -⟩ := hm.form
            obtain ⟨ad, Ae2, ce2, Av2, cv2, Ad2, cd2, hA, z0, z1, z2, z3, z4, z5, z6, z7, z8, z9, z10, z11, z12, hm2⟩ := (HP.out.2.1.ext hx).shape.2.2.2.2.msg hjm
            subst hA
            clear hm hx hci HPE HII
            generalize s.ms[j] = m at HM2 z0 z1 z2 z3 z4 z5 z6 z7 z8 z9 z10 z11 z12 hm2
            have HZ := Lib.hid (show ∀ W : World, Ext w2 W → W.cell? (ad.add (j * 13)) = some (.int .i64 m.kind) ∧ W.cell? ⟨(ad.add (j * 13)).block, (ad.add (j * 13)).off + 1, none⟩ = some (.int .i64 m.from_) ∧ W.cell? ⟨(ad.add (j * 13)).block, (ad.add (j * 13)).off + 2, none⟩ = some (.int .i64 m.to_) ∧ W.cell? ⟨(ad.add (j * 13)).block, (ad.add (j * 13)).off + 3, none⟩ = some (.int .i64 m.term) ∧ W.cell? ⟨(ad.add (j * 13)).block, (ad.add (j * 13)).off + 4, none⟩ = some (.int .i64 m.index) ∧ W.cell? ⟨(ad.add (j * 13)).block, (ad.add (j * 13)).off + 5, none⟩ = some (.int .i64 m.logTerm) ∧ W.cell? ⟨(ad.add (j * 13)).block, (ad.add (j * 13)).off + 6, none⟩ = some (.int .i64 m.commit) ∧ W.cell? ⟨(ad.add (j * 13)).block, (ad.add (j * 13)).off + 7, none⟩ = some (.int .i64 m.round) ∧ W.cell? ⟨(ad.add (j * 13)).block, (ad.add (j * 13)).off + 8, none⟩ = some (.bool m.yes) ∧ W.cell? ⟨(ad.add (j * 13)).block, (ad.add (j * 13)).off + 9, none⟩ = some (.bool m.done) ∧ W.cell? ⟨(ad.add (j * 13)).block, (ad.add (j * 13)).off + 10, none⟩ = some (.slice Ae2 m.entries.length ce2) ∧ W.cell? ⟨(ad.add (j * 13)).block, (ad.add (j * 13)).off + 11, none⟩ = some (.slice Av2 m.voters.length cv2) ∧ W.cell? ⟨(ad.add (j * 13)).block, (ad.add (j * 13)).off + 12, none⟩ = some (.slice Ad2 m.data.length cd2) from fun W hx => ⟨cell_ext z0 hx, cell_ext z1 hx, cell_ext z2 hx, cell_ext z3 hx, cell_ext z4 hx, cell_ext z5 hx, cell_ext z6 hx, cell_ext z7 hx, cell_ext z8 hx, cell_ext z9 hx, cell_ext z10 hx, cell_ext z11 hx, cell_ext z12 hx⟩)
            have HMR := Lib.hid hm2
            clear z0 z1 z2 z3 z4 z5 z6 z7 z8 z9 z10 z11 z12 hm2
            dsimp only [msgC]
            go_upto_region 37 with fail
            obtain ⟨w3, hw3⟩ : ∃ w3, w3 = w2.alloc (.cells (msgC m (.slice Ae m.entries.length ce) (.slice Av m.voters.length cv) (.slice Ad m.data.length cd)) 26) := ⟨_, rfl⟩
            obtain ⟨b, hb⟩ : ∃ b, b = w2.heap.size := ⟨_, rfl⟩
            have HX3 := Lib.hid (show Ext w2 w3 by rw [hw3]; exact (Ext.refl w2).alloc _)
            have HB3 := Lib.hid (show w3.heap[b]? = some (.cells (msgC m (.slice Ae m.entries.length ce) (.slice Av m.voters.length cv) (.slice Ad m.data.length cd)) 26 (0, 0)) by rw [hw3]; exact heap_new w2 b hb.symm _)
            unfold msgC at hw3
            rw [← hw3, ← hb]
            clear hw3 hb
            refine kp37 b j s.ms.length m _ _ ad _ _ _ _ _ _ ct _ _ _ _ _ _ HJM.out HB3 (Lib.hid (fun W hx => HZ.out W (HX3.out.trans hx))) (Lib.hid (HM2.out.ext HX3.out)) (Lib.hid (HMR.out.ext HX3.out)) ?_
            intros
            rename_i w4 hrel
            have HX4 := Lib.hid ((HX2.out.trans HX3.out).trans hrel.out)
            have HP4 := Lib.hid (HP.out.ext HX4.out)
            have HXe := Lib.hid (HX.out.trans HX4.out)
            clear hrel HB3 HX3 HZ HM2 HMR HX2 HX4 HP HX
            go_wp2_with fail
            go_roundw
            case rel => exact ⟨j + 1, by omega, by go_num, HP4, HXe⟩
            case measure => simp [intOf]; omega
          · obtain rfl : j = s.ids.length := by omega
            clear hjl
            go_wp2_with fail
            refine (awake_calls _).mono ?_
            rintro e w4 ⟨rfl, hx⟩
            have HX4 := Lib.hid (HX.out.trans hx)
            clear hx
            go_wp2_with fail
            go_ret
            exact ⟨rfl, HX4.out⟩
end Go.Proofs.Ytfflcnlgkbgbhaa
