/-
  Texts of this claim, put together: PlaySw, NetPlays.
-/
import Derived.Test.YtfflcnlgkbgbhaaZ26
import Derived.Test.YtfflcnlgkbgbhaaZ22
set_option linter.unusedVariables false
set_option linter.unusedSimpArgs false
namespace Go.Proofs.Ytfflcnlgkbgbhaa
open Go.RowKit

def E4 (g g2 q7 q8 : Nat) : Nat → Prop := fun b => b = g ∨ b = g2 ∨ b = q7 ∨ b = q8
/-- What the switch leaves. -/
def SwOut (w wx : World) (g g2 q7 q8 : Nat) (s : BagS) (u9 u10 : Value) : Prop :=
  ∃ (s' : BagS) (m : MsgS) (c : Nat) (Ae1 Av1 Ad1 Ae2 Av2 Ad2 : Option Addr) (ce1 cv1 cd1 ce2 cv2 cd2 : Nat), u9 = .int .i64 (c : Int) ∧ u10 = .int .i64 (c : Int) ∧ PlayR wx (E4 g g2 q7 q8) g g2 s' ∧ s'.last ≤ s.last + 65536 ∧ LightM m ∧
    wx.heap[q7]? = some (.cells (msgC m (.slice Ae1 m.entries.length ce1) (.slice Av1 m.voters.length cv1) (.slice Ad1 m.data.length cd1)) 26 (0, 0)) ∧ wx.heap[q8]? = some (.cells (msgC m (.slice Ae2 m.entries.length ce2) (.slice Av2 m.voters.length cv2) (.slice Ad2 m.data.length cd2)) 26 (0, 0)) ∧ MsgV wx (fun _ => True) (.agg (msgC m (.slice Ae1 m.entries.length ce1) (.slice Av1 m.voters.length cv1) (.slice Ad1 m.data.length cd1))) m ∧ MsgV wx (fun _ => True) (.agg (msgC m (.slice Ae2 m.entries.length ce2) (.slice Av2 m.voters.length cv2) (.slice Ad2 m.data.length cd2))) m ∧ Upd (E4 g g2 q7 q8) w wx

set_option maxRecDepth 1000000 in
set_option maxHeartbeats 16000000 in
theorem plSw {K : Act → World → Prop} {Q : Exit → Act → World → Prop} {w : World} {c0 c1 c2 c5 c11 c12 c13 c14 c15 c16 c17 c18 c19 c20 c21 c22 c23 c24 c25 c26 c27 c28 c29 c30 c31 c32 c33 c34 c36 c37 c38 c39 c40 c41 c42 c43 c44 c45 c46 c47 c48 c49 c50 c51 c52 c53 c54 c55 c56 c57 c58 c59 c60 c61 c62 c63 c64 c65 c66 c67 c68 c69 c70 c71 c72 c73 c74 c75 c76 c77 c78 c79 c80 c81 c82 c83 c84 c85 c86 c87 c88 c89 c90 c91 c92 c93 c94 c95 c96 c97 c98 c99 c100 c101 c102 c103 c104 c105 c106 c107 c108 c109 c110 c111 c112 c113 c114 c115 c116 c117 c118 c119 c120 c121 c122 c123 c124 c125 c126 c127 c128 c129 c130 c131 c132 c133 c134 c135 c136 c137 c138 c139 c140 c141 c142 c143 c144 c145 c146 c147 c148 c149 c150 c151 : Value} (g g2 q q7 q8 n0 : Nat) (s : BagS) (op id : Int) (Al : Option Addr) (cl : Nat) (l : List MsgS) (r : Nat) (hr7 : r < 7) (hp : Hid (PlayR w (E4 g g2 q7 q8) g g2 s)) (hq : Hid (w.heap[q]? = some (.cells #[.int .i64 op, .int .i64 id, .slice Al l.length cl] 52 (0, 0)))) (h7 : Hid (w.heap[q7]? = some (.cells (msgC zeroM (.slice none 0 0) (.slice none 0 0) (.slice none 0 0)) 26 (0, 0)))) (h8 : Hid (w.heap[q8]? = some (.cells (msgC zeroM (.slice none 0 0) (.slice none 0 0) (.slice none 0 0)) 26 (0, 0)))) (hne : Hid ((n0 ≤ g ∧ n0 ≤ g2) ∧ (g < q ∧ g2 < q) ∧ q < q7 ∧ q7 < q8)) (hl : Hid (Rs kMsg w (· < n0) (.slice Al l.length cl) l)) (hll : Hid (l.length ≤ 65536 ∧ ∀ m ∈ l, LightM m)) (hlast : Hid (s.last + 65537 ≤ 4611686018427387904)) (hid : I64 id)
    (hK : ∀ (u2 u9 u10 u11 u13 u15 u36 u37 u38 u39 u40 u41 u42 u43 u44 u45 u46 u47 u48 u49 u50 u51 u52 u53 u54 u55 u56 u57 u58 u59 u60 u61 u62 u63 u64 u65 u66 u67 u68 u69 u70 u71 u72 u73 u74 u75 u76 u77 u78 u79 u80 u81 u82 u83 u84 u85 u86 u87 u88 u89 u90 u91 u92 u93 u94 u95 u96 u97 u98 u99 u100 u101 u102 u103 u104 u105 u106 u107 u108 u109 u110 u111 u112 u113 u114 u115 u116 u117 : Value) (wx : World), Hid (SwOut w wx g g2 q7 q8 s u9 u10) → K ⟨#[c0, c1, u2, .pointer (some ⟨g, 0, none⟩), .pointer (some ⟨g2, 0, none⟩), c5, .pointer (some ⟨q, 0, none⟩), .pointer (some ⟨q7, 0, none⟩), .pointer (some ⟨q8, 0, none⟩), u9, u10, u11, c12, u13, c14, u15, c16, c17, c18, c19, c20, c21, c22, c23, c24, c25, c26, c27, c28, c29, c30, c31, c32, c33, c34, .int .i64 (r : Int), u36, u37, u38, u39, u40, u41, u42, u43, u44, u45, u46, u47, u48, u49, u50, u51, u52, u53, u54, u55, u56, u57, u58, u59, u60, u61, u62, u63, u64, u65, u66, u67, u68, u69, u70, u71, u72, u73, u74, u75, u76, u77, u78, u79, u80, u81, u82, u83, u84, u85, u86, u87, u88, u89, u90, u91, u92, u93, u94, u95, u96, u97, u98, u99, u100, u101, u102, u103, u104, u105, u106, u107, u108, u109, u110, u111, u112, u113, u114, u115, u116, u117, c118, c119, c120, c121, c122, c123, c124, c125, c126, c127, c128, c129, c130, c131, c132, c133, c134, c135, c136, c137, c138, c139, c140, c141, c142, c143, c144, c145, c146, c147, c148, c149, c150, c151], []⟩ wx) :
    Code.wp Try.prog ((Try.f7.body.bind (blockAt 2)).getD .skip) (Exit.then K Q) ⟨#[c0, c1, c2, .pointer (some ⟨g, 0, none⟩), .pointer (some ⟨g2, 0, none⟩), c5, .pointer (some ⟨q, 0, none⟩), .pointer (some ⟨q7, 0, none⟩), .pointer (some ⟨q8, 0, none⟩), .int .i64 0, .int .i64 0, c11, c12, c13, c14, c15, c16, c17, c18, c19, c20, c21, c22, c23, c24, c25, c26, c27, c28, c29, c30, c31, c32, c33, c34, .int .i64 (r : Int), c36, c37, c38, c39, c40, c41, c42, c43, c44, c45, c46, c47, c48, c49, c50, c51, c52, c53, c54, c55, c56, c57, c58, c59, c60, c61, c62, c63, c64, c65, c66, c67, c68, c69, c70, c71, c72, c73, c74, c75, c76, c77, c78, c79, c80, c81, c82, c83, c84, c85, c86, c87, c88, c89, c90, c91, c92, c93, c94, c95, c96, c97, c98, c99, c100, c101, c102, c103, c104, c105, c106, c107, c108, c109, c110, c111, c112, c113, c114, c115, c116, c117, c118, c119, c120, c121, c122, c123, c124, c125, c126, c127, c128, c129, c130, c131, c132, c133, c134, c135, c136, c137, c138, c139, c140, c141, c142, c143, c144, c145, c146, c147, c148, c149, c150, c151], []⟩ w := by
  conv => arg 2; whnf
  have hK2 := Lib.hid @hK
  have HID := Lib.hid hid
  have hneq : ∀ a b : Int, a ≠ b → (a == b) = false := fun a b h => beq_eq_false_iff_ne.2 h
  clear hK hid
  have hq1 : w.cell? ⟨q, 1, none⟩ = some (.int .i64 id) := cell_blk hq.out 1
  rcases (show r = 3 ∨ r = 4 ∨ r = 5 ∨ r = 6 ∨ (r ≠ 3 ∧ r ≠ 4 ∧ r ≠ 5 ∧ r ≠ 6) by omega) with rfl | rfl | rfl | rfl | ⟨n3, n4, n5, n6⟩
  · obtain ⟨m, pe, hpe⟩ := asPair (s.peek id)
    have HPE := Lib.hid hpe
    have HLM := Lib.hid (show LightM m by have h := peek_light hp.out.ok id; rw [hpe] at h; exact h)
    clear hpe
    go_wp2_with fail
    refine (NetPeek_calls w g (BE (E4 g g2 q7 q8)) s id HID.out hp.out.net).mono ?_
    rw [HPE.out]
    rintro e w1 ⟨mv, rfl, hm, hx⟩
    have E1 := Lib.hid (hp.out.2.2.le hx.le)
    have P1 := Lib.hid (show NetR w1 g (BE (E4 g g2 q7 q8)) s ∧ RefR w1 g2 (BE (E4 g g2 q7 q8)) s from ⟨hp.out.1.ext hx, hp.out.2.1.ext hx⟩)
    have U1 := Lib.hid (hx.upd (E4 g g2 q7 q8))
    have hug : ∀ b, b ≠ g → b < w.heap.size → w1.heap[b]? = w.heap[b]? := fun b hb hl => hx.block b hl
    clear hx
    have HM1 := Lib.hid (hm.mono (S' := fun b => w.heap.size ≤ b) fun b hb => hb)
    obtain ⟨Ae1, ce1, Av1, cv1, Ad1, cd1, e1, -⟩ := hm.form
    subst e1
    have hne' := hne.out
    have HQ1 := Lib.hid ((hug q (by omega) (blk_lt hq.out)).trans hq.out)
    have H71 := Lib.hid ((hug q7 (by omega) (blk_lt h7.out)).trans h7.out)
    have H81 := Lib.hid ((hug q8 (by omega) (blk_lt h8.out)).trans h8.out)
    have H8L := Lib.hid (blk_lt h8.out)
    clear hm hq1 hug hne'
    go_upto_region 25 with (refine wpList_store_row rfl 26 (.tmp 7) (.tmp 73) rfl q7 (msgC m (.slice Ae1 m.entries.length ce1) (.slice Av1 m.voters.length cv1) (.slice Ad1 m.data.length cd1)) rfl rfl 26 _ H71.out (msg13 m _ _ _) rfl (msgC_one m _ _ _ _ _ _ _ _ _) ?_)
    have HR2 := Lib.hid (setRow_heap w1 q7 _ (msgC m (.slice Ae1 m.entries.length ce1) (.slice Av1 m.voters.length cv1) (.slice Ad1 m.data.length cd1)) 26 (0, 0) H71.out)
    have HU2 := Lib.hid (setRow_upd w1 q7 (msgC m (.slice Ae1 m.entries.length ce1) (.slice Av1 m.voters.length cv1) (.slice Ad1 m.data.length cd1)))
    obtain ⟨w2, hw2⟩ : ∃ W, W = w1.setRow q7 (msgC m (.slice Ae1 m.entries.length ce1) (.slice Av1 m.voters.length cv1) (.slice Ad1 m.data.length cd1)) := ⟨_, rfl⟩
    rw [← hw2] at HR2 HU2 ⊢
    have hne' := hne.out
    have HM2 := Lib.hid (show MsgV w2 (fun b => w.heap.size ≤ b) (.agg (msgC m (.slice Ae1 m.entries.length ce1) (.slice Av1 m.voters.length cv1) (.slice Ad1 m.data.length cd1))) m from HM1.out.keep fun b hb hl => HU2.out.block b hl (fun e => by have h1 := blk_lt h7.out; have e' : b = q7 := e; omega))
    have P2 := Lib.hid (show NetR w2 g (BE (E4 g g2 q7 q8)) s ∧ RefR w2 g2 (BE (E4 g g2 q7 q8)) s from PlayR.split P1.out.1 P1.out.2 E1.out HU2.out fun b e => by have e' : b = q7 := e; exact ⟨.inr (.inr (.inl e')), by omega, by omega⟩)
    have HQ2 := Lib.hid (blk_upd HQ1.out HU2.out (show ¬ q = q7 by omega))
    have H82 := Lib.hid (blk_upd H81.out HU2.out (show ¬ q8 = q7 by omega))
    have U2 := Lib.hid (U1.out.trans (HU2.out.mono fun b hb => .inr (.inr (.inl hb))))
    have hq2 := cell_blk HQ2.out 1
    have E2 := Lib.hid (E1.out.le HU2.out.le)
    clear hw2 hne' HM1 P1 HQ1 H71 H81 U1 HU2 E1
    go_wp2_with fail
    refine (RPeek_calls w2 g2 (BE (E4 g g2 q7 q8)) s id P2.out.2).mono ?_
    rw [HPE.out]
    rintro e w3 ⟨mv, rfl, hm, hx⟩
    have P3 := Lib.hid (show PlayR w3 (E4 g g2 q7 q8) g g2 s from ⟨P2.out.1.ext hx, P2.out.2.ext hx, E2.out.le hx.le⟩)
    have hug : ∀ b, b ≠ g2 → b < w2.heap.size → w3.heap[b]? = w2.heap[b]? := fun b hb hl => hx.block b hl
    have U3 := Lib.hid (U2.out.trans (hx.upd _))
    clear hx
    have hne' := hne.out
    have HM3 := Lib.hid (show MsgV w3 (fun b => w.heap.size ≤ b) (.agg (msgC m (.slice Ae1 m.entries.length ce1) (.slice Av1 m.voters.length cv1) (.slice Ad1 m.data.length cd1))) m from HM2.out.keep fun b hb hl => hug b (by have h1 := hb; have h2 := blk_lt h7.out; show b ≠ g2; intro e; have h3 : w.heap.size ≤ b := hb; omega) hl)
    have HR3 := Lib.hid ((hug q7 (by omega) (blk_lt HR2.out)).trans HR2.out)
    have H83 := Lib.hid ((hug q8 (by omega) (blk_lt H82.out)).trans H82.out)
    have HN3 := Lib.hid (hm.mono (S' := fun b => ¬ b = q8) fun b hb e => hb.1 (.inr (.inr (.inr e))))
    obtain ⟨Ae2, ce2, Av2, cv2, Ad2, cd2, e2, -⟩ := hm.form
    subst e2
    have HF := Lib.hid (show SwOut w (w3.setRow q8 (msgC m (.slice Ae2 m.entries.length ce2) (.slice Av2 m.voters.length cv2) (.slice Ad2 m.data.length cd2))) g g2 q7 q8 s (.int .i64 (pe : Int)) (.int .i64 (pe : Int)) from by
      have hu := setRow_upd w3 q8 (msgC m (.slice Ae2 m.entries.length ce2) (.slice Av2 m.voters.length cv2) (.slice Ad2 m.data.length cd2))
      refine ⟨s, m, pe, Ae1, Av1, Ad1, Ae2, Av2, Ad2, ce1, cv1, cd1, ce2, cv2, cd2, rfl, rfl, P3.out.upd hu (fun b e => by have e' : b = q8 := e; exact ⟨.inr (.inr (.inr e')), by omega, by omega⟩), (by omega), HLM.out, blk_upd HR3.out hu (show ¬ q7 = q8 by omega), setRow_heap w3 q8 _ (msgC m (.slice Ae2 m.entries.length ce2) (.slice Av2 m.voters.length cv2) (.slice Ad2 m.data.length cd2)) 26 (0, 0) H83.out, ?_, ?_, U3.out.trans (hu.mono fun b hb => .inr (.inr (.inr hb)))⟩
      · exact (HM3.out.keep fun b hb hl => hu.block b hl (fun e => by have e' : b = q8 := e; have h1 := H8L.out; have h3 : w.heap.size ≤ b := hb; omega)).mono fun _ _ => trivial
      · exact (HN3.out.keep fun b hb hl => hu.block b hl hb).mono fun _ _ => trivial)
    clear hm hug hne' HM2 P2 HQ2 H82 U2 hq2 HR2 HM3 HR3 HN3 P3 U3
    go_wp2_with (refine wpList_store_row rfl 26 (.tmp 8) (.tmp 80) rfl q8 (msgC m (.slice Ae2 m.entries.length ce2) (.slice Av2 m.voters.length cv2) (.slice Ad2 m.data.length cd2)) rfl rfl 26 _ H83.out (msg13 m _ _ _) rfl (msgC_one m _ _ _ _ _ _ _ _ _) ?_)
    exact hK2.out _ _ _ _ _ _ _ _ _ _ _ _ _ _ _ _ _ _ _ _ _ _ _ _ _ _ _ _ _ _ _ _ _ _ _ _ _ _ _ _ _ _ _ _ _ _ _ _ _ _ _ _ _ _ _ _ _ _ _ _ _ _ _ _ _ _ _ _ _ _ _ _ _ _ _ _ _ _ _ _ _ _ _ _ _ _ _ _ _  HF
  · obtain ⟨m, pe, hpe⟩ := asPair (s.peek id)
    have HPE := Lib.hid hpe
    have HLM := Lib.hid (show LightM m by have h := peek_light hp.out.ok id; rw [hpe] at h; exact h)
    clear hpe
    go_wp2_with fail
    refine (NetTake_calls w g (BE (E4 g g2 q7 q8)) s id HID.out hp.out.net).mono ?_
    rw [HPE.out]
    rintro e w1 ⟨mv, rfl, hm, hn, hu⟩
    have P1 := Lib.hid (hp.out.net1 hn hu)
    have E1 := Lib.hid (hp.out.2.2.le hu.le)
    have U1 := Lib.hid (hu.mono (T := E4 g g2 q7 q8) fun b hb => .inl hb)
    have hug : ∀ b, b ≠ g → b < w.heap.size → w1.heap[b]? = w.heap[b]? := fun b hb hl => hu.block b hl hb
    clear hn hu
    have HM1 := Lib.hid (hm.mono (S' := fun b => w.heap.size ≤ b) fun b hb => hb)
    obtain ⟨Ae1, ce1, Av1, cv1, Ad1, cd1, e1, -⟩ := hm.form
    subst e1
    have hne' := hne.out
    have HQ1 := Lib.hid ((hug q (by omega) (blk_lt hq.out)).trans hq.out)
    have H71 := Lib.hid ((hug q7 (by omega) (blk_lt h7.out)).trans h7.out)
    have H81 := Lib.hid ((hug q8 (by omega) (blk_lt h8.out)).trans h8.out)
    have H8L := Lib.hid (blk_lt h8.out)
    clear hm hq1 hug hne'
    go_upto_region 28 with (refine wpList_store_row rfl 26 (.tmp 7) (.tmp 89) rfl q7 (msgC m (.slice Ae1 m.entries.length ce1) (.slice Av1 m.voters.length cv1) (.slice Ad1 m.data.length cd1)) rfl rfl 26 _ H71.out (msg13 m _ _ _) rfl (msgC_one m _ _ _ _ _ _ _ _ _) ?_)
    have HR2 := Lib.hid (setRow_heap w1 q7 _ (msgC m (.slice Ae1 m.entries.length ce1) (.slice Av1 m.voters.length cv1) (.slice Ad1 m.data.length cd1)) 26 (0, 0) H71.out)
    have HU2 := Lib.hid (setRow_upd w1 q7 (msgC m (.slice Ae1 m.entries.length ce1) (.slice Av1 m.voters.length cv1) (.slice Ad1 m.data.length cd1)))
    obtain ⟨w2, hw2⟩ : ∃ W, W = w1.setRow q7 (msgC m (.slice Ae1 m.entries.length ce1) (.slice Av1 m.voters.length cv1) (.slice Ad1 m.data.length cd1)) := ⟨_, rfl⟩
    rw [← hw2] at HR2 HU2 ⊢
    have hne' := hne.out
    have HM2 := Lib.hid (show MsgV w2 (fun b => w.heap.size ≤ b) (.agg (msgC m (.slice Ae1 m.entries.length ce1) (.slice Av1 m.voters.length cv1) (.slice Ad1 m.data.length cd1))) m from HM1.out.keep fun b hb hl => HU2.out.block b hl (fun e => by have h1 := blk_lt h7.out; have e' : b = q7 := e; omega))
    have P2 := Lib.hid (show NetR w2 g (BE (E4 g g2 q7 q8)) (s.lose id).1 ∧ RefR w2 g2 (BE (E4 g g2 q7 q8)) s from PlayR.split P1.out.1 P1.out.2 E1.out HU2.out fun b e => by have e' : b = q7 := e; exact ⟨.inr (.inr (.inl e')), by omega, by omega⟩)
    have HQ2 := Lib.hid (blk_upd HQ1.out HU2.out (show ¬ q = q7 by omega))
    have H82 := Lib.hid (blk_upd H81.out HU2.out (show ¬ q8 = q7 by omega))
    have U2 := Lib.hid (U1.out.trans (HU2.out.mono fun b hb => .inr (.inr (.inl hb))))
    have hq2 := cell_blk HQ2.out 1
    have E2 := Lib.hid (E1.out.le HU2.out.le)
    clear hw2 hne' HM1 P1 HQ1 H71 H81 U1 HU2 E1
    go_wp2_with fail
    refine (RTake_calls w2 g2 (BE (E4 g g2 q7 q8)) s id P2.out.2).mono ?_
    rw [HPE.out]
    rintro e w3 ⟨mv, rfl, hm, hn, hu⟩
    have P3 := Lib.hid (PlayR.ref1 P2.out.1 E2.out (fun b hb => hb) hn hu)
    have hug : ∀ b, b ≠ g2 → b < w2.heap.size → w3.heap[b]? = w2.heap[b]? := fun b hb hl => hu.block b hl hb
    have U3 := Lib.hid (U2.out.trans (hu.mono (T := E4 g g2 q7 q8) fun b hb => .inr (.inl hb)))
    clear hn hu
    have hne' := hne.out
    have HM3 := Lib.hid (show MsgV w3 (fun b => w.heap.size ≤ b) (.agg (msgC m (.slice Ae1 m.entries.length ce1) (.slice Av1 m.voters.length cv1) (.slice Ad1 m.data.length cd1))) m from HM2.out.keep fun b hb hl => hug b (by have h1 := hb; have h2 := blk_lt h7.out; show b ≠ g2; intro e; have h3 : w.heap.size ≤ b := hb; omega) hl)
    have HR3 := Lib.hid ((hug q7 (by omega) (blk_lt HR2.out)).trans HR2.out)
    have H83 := Lib.hid ((hug q8 (by omega) (blk_lt H82.out)).trans H82.out)
    have HN3 := Lib.hid (hm.mono (S' := fun b => ¬ b = q8) fun b hb e => hb.1 (.inr (.inr (.inr e))))
    obtain ⟨Ae2, ce2, Av2, cv2, Ad2, cd2, e2, -⟩ := hm.form
    subst e2
    have HF := Lib.hid (show SwOut w (w3.setRow q8 (msgC m (.slice Ae2 m.entries.length ce2) (.slice Av2 m.voters.length cv2) (.slice Ad2 m.data.length cd2))) g g2 q7 q8 s (.int .i64 (pe : Int)) (.int .i64 (pe : Int)) from by
      have hu := setRow_upd w3 q8 (msgC m (.slice Ae2 m.entries.length ce2) (.slice Av2 m.voters.length cv2) (.slice Ad2 m.data.length cd2))
      refine ⟨(s.lose id).1, m, pe, Ae1, Av1, Ad1, Ae2, Av2, Ad2, ce1, cv1, cd1, ce2, cv2, cd2, rfl, rfl, P3.out.upd hu (fun b e => by have e' : b = q8 := e; exact ⟨.inr (.inr (.inr e')), by omega, by omega⟩), (by rw [lose_last]; omega), HLM.out, blk_upd HR3.out hu (show ¬ q7 = q8 by omega), setRow_heap w3 q8 _ (msgC m (.slice Ae2 m.entries.length ce2) (.slice Av2 m.voters.length cv2) (.slice Ad2 m.data.length cd2)) 26 (0, 0) H83.out, ?_, ?_, U3.out.trans (hu.mono fun b hb => .inr (.inr (.inr hb)))⟩
      · exact (HM3.out.keep fun b hb hl => hu.block b hl (fun e => by have e' : b = q8 := e; have h1 := H8L.out; have h3 : w.heap.size ≤ b := hb; omega)).mono fun _ _ => trivial
      · exact (HN3.out.keep fun b hb hl => hu.block b hl hb).mono fun _ _ => trivial)
    clear hm hug hne' HM2 P2 HQ2 H82 U2 hq2 HR2 HM3 HR3 HN3 P3 U3
    go_wp2_with (refine wpList_store_row rfl 26 (.tmp 8) (.tmp 96) rfl q8 (msgC m (.slice Ae2 m.entries.length ce2) (.slice Av2 m.voters.length cv2) (.slice Ad2 m.data.length cd2)) rfl rfl 26 _ H83.out (msg13 m _ _ _) rfl (msgC_one m _ _ _ _ _ _ _ _ _) ?_)
    exact hK2.out _ _ _ _ _ _ _ _ _ _ _ _ _ _ _ _ _ _ _ _ _ _ _ _ _ _ _ _ _ _ _ _ _ _ _ _ _ _ _ _ _ _ _ _ _ _ _ _ _ _ _ _ _ _ _ _ _ _ _ _ _ _ _ _ _ _ _ _ _ _ _ _ _ _ _ _ _ _ _ _ _ _ _ _ _ _ _ _ _  HF
  · have hne' := hne.out
    go_upto_region 30 with fail
    refine pl30 (E4 g g2 q7 q8) g g2 q s op id _ hp hq ⟨by omega, by omega⟩ HID.out ?_
    intros
    rename_i wx hrel
    have HF := Lib.hid (show SwOut w wx g g2 q7 q8 s (.int .i64 ((s.lose id).2 : Int)) (.int .i64 ((s.lose id).2 : Int)) from
      ⟨(s.lose id).1, zeroM, (s.lose id).2, none, none, none, none, none, none, 0, 0, 0, 0, 0, 0, rfl, rfl, hrel.out.1, (by rw [lose_last]; omega), zeroM_light, blk_upd h7.out hrel.out.2 (fun e => by rcases e with e | e <;> omega), blk_upd h8.out hrel.out.2 (fun e => by rcases e with e | e <;> omega), zero_V _ _, zero_V _ _, hrel.out.2.mono fun b hb => hb.elim .inl fun h => .inr (.inl h)⟩)
    clear hrel
    go_wp2_with fail
    exact hK2.out _ _ _ _ _ _ _ _ _ _ _ _ _ _ _ _ _ _ _ _ _ _ _ _ _ _ _ _ _ _ _ _ _ _ _ _ _ _ _ _ _ _ _ _ _ _ _ _ _ _ _ _ _ _ _ _ _ _ _ _ _ _ _ _ _ _ _ _ _ _ _ _ _ _ _ _ _ _ _ _ _ _ _ _ _ _ _ _ _  HF
  · have hne' := hne.out
    go_upto_region 32 with fail
    refine pl32 (E4 g g2 q7 q8) g g2 q s op id _ hp hq ⟨by omega, by omega⟩ HID.out (by have := hlast.out; omega) ?_
    intros
    rename_i wx hrel
    have HF := Lib.hid (show SwOut w wx g g2 q7 q8 s (.int .i64 ((s.double id).2 : Int)) (.int .i64 ((s.double id).2 : Int)) from
      ⟨(s.double id).1, zeroM, (s.double id).2, none, none, none, none, none, none, 0, 0, 0, 0, 0, 0, rfl, rfl, hrel.out.1, (by have := double_last s id; omega), zeroM_light, blk_upd h7.out hrel.out.2 (fun e => by rcases e with e | e <;> omega), blk_upd h8.out hrel.out.2 (fun e => by rcases e with e | e <;> omega), zero_V _ _, zero_V _ _, hrel.out.2.mono fun b hb => hb.elim .inl fun h => .inr (.inl h)⟩)
    clear hrel
    go_wp2_with fail
    exact hK2.out _ _ _ _ _ _ _ _ _ _ _ _ _ _ _ _ _ _ _ _ _ _ _ _ _ _ _ _ _ _ _ _ _ _ _ _ _ _ _ _ _ _ _ _ _ _ _ _ _ _ _ _ _ _ _ _ _ _ _ _ _ _ _ _ _ _ _ _ _ _ _ _ _ _ _ _ _ _ _ _ _ _ _ _ _ _ _ _ _  HF
  · have h3 := hneq (r : Int) 3 (by omega)
    have h4 := hneq (r : Int) 4 (by omega)
    have h5 := hneq (r : Int) 5 (by omega)
    have h6 := hneq (r : Int) 6 (by omega)
    have hq2 : w.cell? ⟨q, 2, none⟩ = some (.slice Al l.length cl) := cell_blk hq.out 2
    have HLL := Lib.hid (show l.length ≤ 65536 from hll.out.1)
    clear hneq n3 n4 n5 n6 hr7
    go_wp2_with fail
    clear h3 h4 h5 h6 hq1 hq2
    go_loopw [11, 39] (fun v i wr => ∃ (k : Nat) (os : List OwnM), k ≤ l.length ∧ i = .int .i64 k ∧ Hid (os.map (·.m) = l.take k) ∧ Hid (Ow kMsgW 26 wr w.heap.size (Nd w.heap.size os) v os) ∧ Hid (OwnL wr w.heap.size os) ∧ Hid (Ext w wr)) (fun _ i _ => l.length - (intOf i).toNat)
    case atStart => exact ⟨0, [], Nat.zero_le _, rfl, Lib.hid rfl, Lib.hid (Ow.nil _ _ _ _ _), Lib.hid (OwnL.nil _ _), Lib.hid (Ext.refl _)⟩
    case round =>
      obtain ⟨k, os, hk, rfl, HM, HO, HW, HX⟩ := hrel
      obtain ⟨Av0, nv0, cv0, hv0⟩ : ∃ A n c, u11 = .slice A n c := by obtain ⟨A, c, e, _⟩ := _root_.id HO.out.rs; exact ⟨_, _, _, e⟩
      subst hv0
      by_cases hlt : k < l.length
      · obtain ⟨ad, Ae, ce, Av, cv, Ad, cd, rfl, z0, z1, z2, z3, z4, z5, z6, z7, z8, z9, z10, z11, z12, hm⟩ := (hl.out.ext HX.out).shape.2.2.2.2.msg hlt
        have HM1 := Lib.hid hm
        have HLT := Lib.hid (hll.out.2 _ (List.getElem_mem hlt))
        have HTK := Lib.hid (show l.take (k + 1) = l.take k ++ [l[k]] from List.take_succ_eq_append_getElem hlt)
        have hlen := HLL.out
        clear hm
        generalize l[k] = m at z0 z1 z2 z3 z4 z5 z6 z7 z8 z9 z10 z11 z12 HM1 HLT HTK
        go_upto_region 14 with fail
        obtain ⟨wa, hwa⟩ : ∃ wa, wa = wr.alloc (.cells (msgC m (.slice Ae m.entries.length ce) (.slice Av m.voters.length cv) (.slice Ad m.data.length cd)) 26) := ⟨_, rfl⟩
        have HBa := Lib.hid (show wa.heap[wr.heap.size]? = some (.cells (msgC m (.slice Ae m.entries.length ce) (.slice Av m.voters.length cv) (.slice Ad m.data.length cd)) 26 (0, 0)) by rw [hwa]; exact heap_new wr _ rfl _)
        have HXa := Lib.hid (show Ext wr wa by rw [hwa]; exact (Ext.refl wr).alloc _)
        have HMa := Lib.hid (HM1.out.ext HXa.out)
        unfold msgC at hwa
        rw [← hwa]
        clear hwa HM1 z0 z1 z2 z3 z4 z5 z6 z7 z8 z9 z10 z11 z12
        obtain ⟨⟨x0, x1, x2, x3, x4, x5, x6, x7, x8, x9, x10, x11, x12⟩, -⟩ := msg_cells HBa.out
        go_wp2_with fail
        refine (own_calls wa _ _ m HMa.out HLT.out).mono ?_
        rintro e w2 ⟨mv, rfl, hmo, hx⟩
        obtain ⟨Ae2, ce2, Av2, cv2, Ad2, cd2, e2, -⟩ := hmo.v.form
        subst e2
        obtain ⟨x, hx0⟩ : ∃ x : OwnM, x = ⟨m, .slice Ae2 m.entries.length ce2, .slice Av2 m.voters.length cv2, .slice Ad2 m.data.length cd2, wa.heap.size, w2.heap.size⟩ := ⟨_, rfl⟩
        have HXX := Lib.hid hx0
        have HB := Lib.hid (show MsgB w2 x.lo x.hi x.val x.m by rw [hx0]; exact hmo.b)
        have HX2 := Lib.hid (show Ext wr w2 from HXa.out.trans hx)
        have hle0 := HX.out.le
        have hle1 := HXa.out.le
        have hle2 := hx.le
        have HW2 := Lib.hid (show OwnL w2 w.heap.size (os ++ [x]) from (HW.out.ext HX2.out).snoc x HB.out (by rw [hx0]; exact ⟨by simp only; omega, by simp only; omega, Nat.le_refl _⟩) (fun y hy => by have := (HW.out.lo y hy).2.2; rw [hx0]; simp only; omega))
        have HO2 := Lib.hid (show Ow kMsgW 26 w2 w.heap.size (Nd w.heap.size (os ++ [x])) (.slice Av0 nv0 cv0) os from (HO.out.bound.mono (Nd.snoc (top := wr.heap.size) (by rw [hx0]; exact hle1))).ext HX2.out)
        have HON := Lib.hid (show os.length ≤ 65536 by have h := congrArg List.length HM.out; rw [List.length_map, List.length_take] at h; omega)
        have HXW := Lib.hid (HX.out.trans HX2.out)
        clear hmo hx hx0 hle0 hle1 hle2 x0 x1 x2 x3 x4 x5 x6 x7 x8 x9 x10 x11 x12 HBa HXa HMa HLT HB HO HW HX2 HX
        have HSZ := Lib.hid (show ∀ o, (w2.alloc o).heap.size = w2.heap.size + 1 from fun o => by simp)
        dsimp only [msgC]
        go_wp2_with (at_builtin; refine wpList_append_Rs kMsgW rfl (.tmp 43) (.tmp 46) 28 26 rfl tMsgs w.heap.size _ _ os [x] (Nd w.heap.size (os ++ [x])) (fun _ => True) rfl rfl (HO2.out.alloc _) (Rs.one_msgw (t := 26) x ?f0 trivial ?f1 ?f2 ?f3) (fun _ _ h => h) ?cn ?cb ?cz ?_)
        case f0 => rw [HXX.out]; exact heap_new w2 _ rfl _
        case f1 => rw [HXX.out]; exact ⟨_, _, _, rfl⟩
        case f2 => rw [HXX.out]; exact ⟨_, _, _, rfl⟩
        case f3 => rw [HXX.out]; exact ⟨_, _, _, rfl⟩
        case cn => intro b hb; rw [HSZ.out] at hb; exact Nd.new HW2.out HXW.out.le b (by omega)
        case cb => have := HON.out; simp; omega
        case cz => have := HXW.out.le; rw [HSZ.out]; omega
        intro v' w3 ho hg _
        have hon := (HO2.out.alloc (.cells (msgC m (.slice Ae2 m.entries.length ce2) (.slice Av2 m.voters.length cv2) (.slice Ad2 m.data.length cd2)) 26)).1
        have HO3 := Lib.hid ho
        have HW3 := Lib.hid (show OwnL w3 w.heap.size (os ++ [x]) from (HW2.out.ext ((Ext.refl w2).alloc _)).grown hg (fun k hk y hy => (hon k hk).2 y hy))
        have HX3 := Lib.hid ((HXW.out.alloc _).grown hg (fun k hk => (hon k hk).1))
        have HM3 := Lib.hid (show (os ++ [x]).map (·.m) = l.take (k + 1) by rw [HTK.out, List.map_append, HM.out, HXX.out]; rfl)
        clear ho hg hon HXX HW2 HO2 HON HXW HSZ HTK HM
        go_wp2_with fail
        go_roundw
        case rel => exact ⟨k + 1, os ++ [x], by omega, by go_num, HM3, HO3, HW3, HX3⟩
        case measure => simp [intOf]; omega
      · obtain rfl : k = l.length := by omega
        rw [List.take_length] at HM
        have hos : os.length = l.length := by rw [← HM.out, List.length_map]
        have HOS := Lib.hid hos
        have hne' := hne.out
        clear hlt hos
        go_upto_region 16 with fail
        obtain ⟨top, htop⟩ : ∃ top, top = wr.heap.size := ⟨_, rfl⟩
        obtain ⟨E5, hE5⟩ : ∃ E5 : Nat → Prop, E5 = fun b => E4 g g2 q7 q8 b ∨ (w.heap.size ≤ b ∧ b < top) := ⟨_, rfl⟩
        have P5 := Lib.hid (show PlayR wr E5 g g2 s from hp.out.more HX.out (fun b hb => by rw [hE5]; exact .inl hb) (fun b hb => by rw [hE5] at hb; exact hb.imp (fun h => h) (fun h => h.1)) (fun b hb => by
          rw [hE5] at hb
          rcases hb with hb | hb
          · exact Nat.lt_of_lt_of_le (hp.out.2.2.lt b hb) HX.out.le
          · omega))
        have HEN := Lib.hid (show ∀ b, (w.heap.size ≤ b ∧ b < top) → E5 b ∧ b ≠ g ∧ b ≠ g2 by
          intro b hb
          have h1 := hp.out.1.lt
          have h2 := hp.out.2.1.lt
          exact ⟨by rw [hE5]; exact .inr hb, by omega, by omega⟩)
        have HE4 := Lib.hid (show ∀ b, E4 g g2 q7 q8 b → E5 b by rw [hE5]; exact fun b hb => .inl hb)
        have HLO := Lib.hid (show ∀ x ∈ os, w.heap.size ≤ x.lo ∧ x.lo ≤ x.hi ∧ x.hi ≤ top by rw [htop]; exact HW.out.lo)
        have HL2 := Lib.hid (show Rs kMsg wr (BE E5) (.slice Al l.length cl) l from (hl.out.ext HX.out).mono fun b hb he => by
          have hb' : b < n0 := hb
          have h1 := blk_lt h7.out
          rw [hE5] at he
          rcases he with (he | he | he | he) | he <;> omega)
        have hgl := hp.out.1.lt
        have hg2l := hp.out.2.1.lt
        have HLW := Lib.hid (show Rs kMsg wr (fun b => w.heap.size ≤ b) (.slice Av0 nv0 cv0) l by
          have h := HO.out.rs.msgw (T := fun b => w.heap.size ≤ b) (fun x hx => (HW.out.each x hx).v.mono fun b hb => by have := HW.out.lo x hx; show w.heap.size ≤ b; omega) (fun b hb => hb.1)
          rw [HM.out] at h
          exact h)
        have HQR := Lib.hid (blk_ext hq.out HX.out)
        clear hE5
        refine pl16 E5 g g2 q s op id _ _ _ _ _ l P5 HQR ⟨by omega, by omega⟩ (fun b => w.heap.size ≤ b) (by omega) HLW HL2 (by have := hlast.out; have := HLL.out; omega) ?_
        intros
        rename_i wx hrel
        have HP6 := Lib.hid hrel.out.1
        have HU6 := Lib.hid hrel.out.2
        have HR6 := Lib.hid (HO.out.rs.upd HU6.out (fun b hb e => by have h1 : w.heap.size ≤ b := hb.1; rcases e with e | e <;> omega))
        have HM6 := Lib.hid (show ∀ x ∈ os.drop 0, MsgB wx x.lo x.hi x.val x.m from fun x hx => (HW.out.each x (List.mem_of_mem_drop hx)).upd HU6.out (fun b h1 h2 e => by have := HLO.out x (List.mem_of_mem_drop hx); rcases e with e | e <;> omega))
        have HUW := Lib.hid (show Upd (fun b => b = g ∨ b = g2) w wx from (HX.out.upd _).trans HU6.out)
        have HAP := Lib.hid HW.out
        have HTW := Lib.hid (show top ≤ wx.heap.size by rw [htop]; exact HU6.out.le)
        have hnv : nv0 = os.length := HO.out.rs.shape.1
        have hon5 := HLL.out
        have hob : os.length ≤ 65536 := by rw [HOS.out]; exact hon5
        clear hrel P5 HL2 HLW HQR HO HW HU6 HX htop HM hgl hg2l
        subst hnv
        go_wp2_with fail
        go_loopw [59] (fun i wr2 => ∃ k : Nat, k ≤ os.length ∧ i = .int .i64 k ∧ Hid (PlayR wr2 E5 g g2 (s.send l).1) ∧ Hid (Rs kMsgW wr2 (Nd w.heap.size os) (.slice Av0 os.length cv0) os) ∧ Hid (∀ x ∈ os.drop k, MsgB wr2 x.lo x.hi x.val x.m) ∧ Hid (Upd (fun b => b = g ∨ b = g2) w wr2 ∧ top ≤ wr2.heap.size)) (fun i _ => os.length - (intOf i).toNat)
        case atStart => exact ⟨0, Nat.zero_le _, rfl, HP6, HR6, HM6, Lib.hid ⟨HUW.out, HTW.out⟩⟩
        case round =>
          clear HP6 HR6 HM6 HUW HTW
          obtain ⟨k, hk, rfl, HP, HR, HMB, HU⟩ := hrel
          by_cases hlt : k < os.length
          · obtain ⟨ad, Ae, ne, ce, Av, nv, cv, Ad, nd, cd, hA, hval, z0, z1, z2, z3, z4, z5, z6, z7, z8, z9, z10, z11, z12⟩ := HR.out.shape.2.2.2.2.msgw hlt
            subst hA
            have hmb : MsgB wr os[k].lo os[k].hi os[k].val os[k].m := HMB.out _ (by rw [← List.getElem_cons_drop hlt]; exact List.mem_cons_self)
            rw [hval] at hmb
            have HMK := Lib.hid hmb
            have HLK := Lib.hid (HLO.out _ (List.getElem_mem hlt))
            have HAK := Lib.hid (HAP.out.later hlt)
            have HNK := Lib.hid (show ∀ b, Nd w.heap.size os b → ¬ (os[k].lo ≤ b ∧ b < os[k].hi) from fun b hb => hb.2 _ (List.getElem_mem hlt))
            clear hmb hval
            generalize os[k].lo = lo at HMK HLK HNK
            generalize os[k].hi = hi at HMK HLK HAK HNK
            generalize os[k].m = m at HMK z0 z1 z2 z3 z4 z5 z6 z7 z8 z9 z10 z11 z12
            go_upto_region 21 with fail
            obtain ⟨wa, hwa⟩ : ∃ wa, wa = wr.alloc (.cells (msgC m (.slice Ae ne ce) (.slice Av nv cv) (.slice Ad nd cd)) 26) := ⟨_, rfl⟩
            have HBa := Lib.hid (show wa.heap[wr.heap.size]? = some (.cells (msgC m (.slice Ae ne ce) (.slice Av nv cv) (.slice Ad nd cd)) 26 (0, 0)) by rw [hwa]; exact heap_new wr _ rfl _)
            have HXa := Lib.hid (show Ext wr wa by rw [hwa]; exact (Ext.refl wr).alloc _)
            unfold msgC at hwa
            rw [← hwa]
            clear hwa z0 z1 z2 z3 z4 z5 z6 z7 z8 z9 z10 z11 z12
            obtain ⟨⟨x0, x1, x2, x3, x4, x5, x6, x7, x8, x9, x10, x11, x12⟩, -⟩ := msg_cells HBa.out
            go_wp2_with fail
            refine (turn_calls wa lo hi _ m (HMK.out.ext HXa.out) (Nat.le_trans HLK.out.2.2 (Nat.le_trans HU.out.2 HXa.out.le))).mono ?_
            rintro e w3 ⟨rfl, hu⟩
            have hu2 : Upd (fun b => lo ≤ b ∧ b < hi) wr w3 := (HXa.out.upd _).trans hu
            have HP2 := Lib.hid (HP.out.upd hu2 (fun b hb => HEN.out b (by have := HLK.out; omega)))
            have HR2 := Lib.hid (HR.out.upd hu2 HNK.out)
            have HMB2 := Lib.hid (show ∀ x ∈ os.drop (k + 1), MsgB w3 x.lo x.hi x.val x.m from fun x hx => (HMB.out x (by rw [← List.getElem_cons_drop hlt]; exact List.mem_cons_of_mem _ hx)).upd hu2 (fun b h1 h2 e => by have := HAK.out x hx; omega))
            have HU2 := Lib.hid (show Upd (fun b => b = g ∨ b = g2) w w3 ∧ top ≤ w3.heap.size from ⟨HU.out.1.then_ hu2 (fun x hx => .inr (by have := HLK.out; omega)), Nat.le_trans HU.out.2 hu2.le⟩)
            clear hu hu2 x0 x1 x2 x3 x4 x5 x6 x7 x8 x9 x10 x11 x12 HBa HXa HMK HLK HAK HNK HP HR HMB HU
            go_wp2_with fail
            go_roundw
            case rel => exact ⟨k + 1, by omega, by go_num, HP2, HR2, HMB2, HU2⟩
            case measure => simp [intOf]; omega
          · obtain rfl : k = os.length := by omega
            clear hlt
            have HF := Lib.hid (show SwOut w wr g g2 q7 q8 s (.int .i64 0) (.int .i64 0) from
              ⟨(s.send l).1, zeroM, 0, none, none, none, none, none, none, 0, 0, 0, 0, 0, 0, rfl, rfl, HP.out.less HE4.out (.inl rfl) (.inr (.inl rfl)), (by have := send_last s l; omega), zeroM_light, blk_upd h7.out HU.out.1 (fun e => by rcases e with e | e <;> omega), blk_upd h8.out HU.out.1 (fun e => by rcases e with e | e <;> omega), zero_V _ _, zero_V _ _, HU.out.1.mono fun b hb => hb.elim .inl fun h => .inr (.inl h)⟩)
            go_wp2_with fail
            exact hK2.out _ _ _ _ _ _ _ _ _ _ _ _ _ _ _ _ _ _ _ _ _ _ _ _ _ _ _ _ _ _ _ _ _ _ _ _ _ _ _ _ _ _ _ _ _ _ _ _ _ _ _ _ _ _ _ _ _ _ _ _ _ _ _ _ _ _ _ _ _ _ _ _ _ _ _ _ _ _ _ _ _ _ _ _ _ _ _ _ _  HF
end Go.Proofs.Ytfflcnlgkbgbhaa
set_option linter.unusedVariables false
set_option linter.unusedSimpArgs false
namespace Go.Proofs.Ytfflcnlgkbgbhaa
open Go.RowKit

theorem rem7 (op : Int) : ∃ r : Nat, wrap64 ((IntKind.u64.wrap op).tmod 7) = (r : Int) ∧ r < 7 := by
  have hq : 0 ≤ IntKind.u64.wrap op := by rw [IntKind.wrap_u64]; omega
  rw [Int.tmod_eq_emod_of_nonneg hq]
  have h3 := Int.emod_nonneg (IntKind.u64.wrap op) (show (7 : Int) ≠ 0 by omega)
  have h4 := Int.emod_lt_of_pos (IntKind.u64.wrap op) (show (0 : Int) < 7 by omega)
  generalize (IntKind.u64.wrap op) % 7 = r at h3 h4
  have e1 : wrap64 r = r := IntWalk.wrap64_in _ (by omega)
  rw [e1]
  exact ⟨r.toNat, by omega, by omega⟩
def E2 (g g2 : Nat) : Nat → Prop := fun b => b = g ∨ b = g2

set_option maxRecDepth 1000000 in
set_option maxHeartbeats 16000000 in
theorem NetPlays_walk (w : World) (S : Nat → Prop) (v : Value) (l : List DoS) (hr : Rs kDo w S v l) :
    Calls Try.prog 7 #[v] w fun e w' => e = .returned (.bool true) ∧ Ext w w' := by
  have HR := Lib.hid hr.under
  obtain ⟨A, c, rfl, -, -, hz, -⟩ := hr
  go_enter Try.func7, Try.ntmps7
  go_wp2_with fail
  refine (short_calls w _ _ l HR.out).mono ?_
  rintro e w1 ⟨⟨b, rfl, hb⟩, n1, hw1⟩
  have HX1 := Lib.hid (show Ext w w1 by rw [hw1]; exact (Ext.refl w).drewN n1)
  clear hw1
  cases b
  · clear hb
    go_wp2_with fail
    refine (awake_calls w1).mono ?_
    rintro e w2 ⟨rfl, hx⟩
    have HX2 := Lib.hid (HX1.out.trans hx)
    clear hx
    go_wp2_with fail
    go_ret
    exact ⟨rfl, HX2.out⟩
  · have HB := Lib.hid (hb rfl)
    have h400 : l.length ≤ 400 := (hb rfl).1
    clear hb hz
    go_wp2_with fail
    refine (NetNew_calls w1).mono ?_
    rintro e w2 ⟨rfl, hn, hx⟩
    obtain ⟨g, hg⟩ : ∃ g, g = w1.heap.size := ⟨_, rfl⟩
    rw [← hg] at hn ⊢
    have HN := Lib.hid hn
    have HX2 := Lib.hid (HX1.out.trans hx)
    have HGW := Lib.hid (show w.heap.size ≤ g by rw [hg]; exact HX1.out.le)
    clear hn hx hg HX1
    go_upto_region 4 with fail
    obtain ⟨w3, hw3⟩ : ∃ w3, w3 = w2.alloc (.cells #[.slice none 0 0, .slice none 0 0, .int .i64 0] 50) := ⟨_, rfl⟩
    obtain ⟨g2, hg2⟩ : ∃ g2, g2 = w2.heap.size := ⟨_, rfl⟩
    have HX3 := Lib.hid (show Ext w w3 by rw [hw3]; exact HX2.out.alloc _)
    have HP3 := Lib.hid (show PlayR w3 (E2 g g2) g g2 bag0 by
      have hlt := HN.out.lt
      refine ⟨?_, ⟨none, 0, none, 0, by rw [hw3]; exact heap_new w2 g2 hg2.symm _, Rs.nil _ _ _, Rs.nil _ _ _, bag0_ok, by show (0 : Int) ≤ _; omega, fun h => h (.inr rfl)⟩, by omega, .inl rfl, .inr rfl, fun b hb => by rw [hw3]; simp; rcases hb with hb | hb <;> omega⟩
      rw [hw3]
      exact (HN.out.mono (B' := BE (E2 g g2)) (fun b hb => hb.elim) (fun h => h (.inl rfl))).ext ((Ext.refl w2).alloc _))
    have HGS := Lib.hid (show w.heap.size ≤ g2 by rw [hg2]; exact HX2.out.le)
    rw [← hw3, ← hg2]
    clear hw3 hg2 HN HX2
    go_wp2_with fail
    go_loopw [27] (fun i wr => ∃ (k : Nat) (s : BagS), k ≤ l.length ∧ i = .int .i64 k ∧ Hid (PlayR wr (E2 g g2) g g2 s) ∧ Hid (s.last ≤ 65536 * (k : Int)) ∧ Hid (Ext w wr)) (fun i _ => l.length - (intOf i).toNat)
    case atStart => exact ⟨0, bag0, Nat.zero_le _, rfl, HP3, Lib.hid (by show (0 : Int) ≤ _; omega), HX3⟩
    case round =>
      clear HP3 HX3
      obtain ⟨k, s, hk, rfl, HP, HS, HX⟩ := hrel
      by_cases hlt : k < l.length
      · obtain ⟨ad, Al, cl, rfl, a0, a1, a2, hrl, hop, hid⟩ := (HR.out.ext HX.out).shape.2.2.2.2.do_ hlt
        have HL := Lib.hid hrl
        have HID := Lib.hid hid
        have HLD := Lib.hid (show l[k].l.length ≤ 65536 ∧ ∀ m ∈ l[k].l, LightM m from HB.out.2 _ (List.getElem_mem hlt))
        clear hrl hop hid
        generalize l[k].l = ml at a2 HL HLD
        generalize l[k].op = op at a0
        generalize l[k].id = id at a1 HID
        go_upto_region 8 with fail
        obtain ⟨wa, hwa⟩ : ∃ wa, wa = ((wr.alloc (.cells #[.int .i64 op, .int .i64 id, .slice Al ml.length cl] 52)).alloc (.cells (msgC zeroM (.slice none 0 0) (.slice none 0 0) (.slice none 0 0)) 26)).alloc (.cells (msgC zeroM (.slice none 0 0) (.slice none 0 0) (.slice none 0 0)) 26) := ⟨_, rfl⟩
        obtain ⟨q, hq⟩ : ∃ q, q = wr.heap.size := ⟨_, rfl⟩
        have HXa := Lib.hid (show Ext wr wa by rw [hwa]; exact (((Ext.refl wr).alloc _).alloc _).alloc _)
        have HQ := Lib.hid (show wa.heap[q]? = some (.cells #[.int .i64 op, .int .i64 id, .slice Al ml.length cl] 52 (0, 0)) by rw [hwa]; exact blk_ext (heap_new wr q hq.symm _) (((Ext.refl _).alloc _).alloc _))
        have HQ7 := Lib.hid (show wa.heap[q + 1]? = some (.cells (msgC zeroM (.slice none 0 0) (.slice none 0 0) (.slice none 0 0)) 26 (0, 0)) by rw [hwa]; exact blk_ext (heap_new _ (q + 1) (by simp [hq]) _) ((Ext.refl _).alloc _))
        have HQ8 := Lib.hid (show wa.heap[q + 1 + 1]? = some (.cells (msgC zeroM (.slice none 0 0) (.slice none 0 0) (.slice none 0 0)) 26 (0, 0)) by rw [hwa]; exact heap_new _ (q + 1 + 1) (by simp [hq]) _)
        have HSZ := Lib.hid (show wa.heap.size = q + 3 by rw [hwa]; simp [hq])
        have HPa := Lib.hid (show PlayR wa (E4 g g2 (q + 1) (q + 1 + 1)) g g2 s from HP.out.more HXa.out (fun b hb => hb.elim .inl fun h => .inr (.inl h)) (fun b hb => by
          rcases hb with hb | hb | hb | hb
          · exact .inl (.inl hb)
          · exact .inl (.inr hb)
          · right; omega
          · right; omega) (fun b hb => by
          have h1 := HP.out.1.lt
          have h2 := HP.out.2.1.lt
          have h3 := HSZ.out
          rcases hb with hb | hb | hb | hb <;> omega))
        have HNE := Lib.hid (show (w.heap.size ≤ g ∧ w.heap.size ≤ g2) ∧ (g < q ∧ g2 < q) ∧ q < q + 1 ∧ q + 1 < q + 1 + 1 from ⟨⟨HGW.out, HGS.out⟩, ⟨by rw [hq]; exact HP.out.1.lt, by rw [hq]; exact HP.out.2.1.lt⟩, by omega, by omega⟩)
        have HXW := Lib.hid (HX.out.trans HXa.out)
        have HLa := Lib.hid (HL.out.ext HXa.out)
        have HSL := Lib.hid (show s.last + 65537 ≤ 4611686018427387904 by have := HS.out; omega)
        unfold msgC zeroM at hwa
        rw [← hwa, ← hq]
        clear hwa hq a0 a1 a2 HL HXa HP HX
        have hq0 : wa.cell? ⟨q, 0, none⟩ = some (.int .i64 op) := cell_blk HQ.out 0
        obtain ⟨r, hr, hr7⟩ := rem7 op
        go_upto_block 2 with fail
        rw [hr]
        clear hq0 hr
        refine plSw g g2 q (q + 1) (q + 1 + 1) w.heap.size s op id Al cl ml r hr7 HPa HQ HQ7 HQ8 HNE HLa HLD HSL HID.out ?_
        intros
        rename_i wx hrel
        obtain ⟨s', m, cd, Ae1, Av1, Ad1, Ae2, Av2, Ad2, ce1, cv1, cd1, ce2, cv2, cd2, rfl, rfl, hp, hlast, hlm, hq7, hq8, hm1, hm2, hu⟩ := hrel.out
        have HPx := Lib.hid (hp.less (E' := E2 g g2) (fun b hb => hb.elim .inl fun h => .inr (.inl h)) (.inl rfl) (.inr rfl))
        have HSx := Lib.hid (show s'.last ≤ 65536 * ((k + 1 : Nat) : Int) by have := HS.out; omega)
        have HLM := Lib.hid hlm
        have HM1 := Lib.hid hm1
        have HM2 := Lib.hid hm2
        have H7 := Lib.hid hq7
        have H8 := Lib.hid hq8
        have HXx := Lib.hid (show Ext w wx from hu.ext HXW.out (fun b hb => by have h := HNE.out; rcases hb with hb | hb | hb | hb <;> omega))
        clear hrel hp hlast hlm hm1 hm2 hq7 hq8 hu HQ HQ7 HQ8 HSZ HPa HNE HXW HLa HSL HS HLD HID hr7
        have hcc : ((cd : Int) != (cd : Int)) = false := bne_self_eq_false _
        go_wp2_with fail
        refine (NetList_calls wx g _ s' HPx.out.net).mono ?_
        rintro e w4 ⟨u, rfl, ho, hx⟩
        obtain ⟨Ai, ci, ei, -, -, hzi, -⟩ := _root_.id ho.rs
        subst ei
        have HO4 := Lib.hid (show ∃ vs : List Int, vs.length = s'.ids.length ∧ Ow kInt 3 w4 wx.heap.size (wx.heap.size ≤ ·) (.slice Ai s'.ids.length ci) vs from ⟨_, rfl, ho⟩)
        have HR4 := Lib.hid ho.rs
        have HX4 := Lib.hid hx
        have hb4 := blk_ext H7.out hx
        obtain ⟨⟨x0, x1, x2, x3, x4, x5, x6, x7, x8, x9, x10, x11, x12⟩, -⟩ := msg_cells hb4
        obtain ⟨⟨y0, y1, y2, y3, y4, y5, y6, y7, y8, y9, y10, y11, y12⟩, -⟩ := msg_cells (blk_ext H8.out hx)
        clear ho hx hb4
        go_wp2_with fail
        refine (same_calls w4 _ _ _ _ m m (HM1.out.ext HX4.out) (HM2.out.ext HX4.out)).mono ?_
        rw [decide_eq_true (rfl : m = m)]
        rintro e w5 ⟨rfl, hx⟩
        have HX5 := Lib.hid (HX4.out.trans hx)
        have HO5 := Lib.hid (show ∃ vs : List Int, vs.length = s'.ids.length ∧ Ow kInt 3 w5 wx.heap.size (wx.heap.size ≤ ·) (.slice Ai s'.ids.length ci) vs from let ⟨vs, h1, h2⟩ := HO4.out; ⟨vs, h1, h2.ext hx⟩)
        have HR5 := Lib.hid (HR4.out.ext hx)
        obtain ⟨_, _, A2, c2, hb5, _, hr5, _, _, _⟩ := HPx.out.ref.ext HX5.out
        have HRF := Lib.hid hr5
        have hc5 : w5.cell? ⟨g2, 1, none⟩ = some (.slice A2 s'.ids.length c2) := cell_blk hb5 1
        clear hx hb5 hr5 HO4 HR4 HX4 x0 x1 x2 x3 x4 x5 x6 x7 x8 x9 x10 x11 x12 y0 y1 y2 y3 y4 y5 y6 y7 y8 y9 y10 y11 y12
        go_wp2_with fail
        refine (EqualI_calls w5 _ _ _ _ s'.ids s'.ids HR5.out HRF.out).mono ?_
        rw [eqL_self]
        rintro e w6 ⟨rfl, n6, hw6⟩
        have HX6 := Lib.hid (show Ext wx w6 by rw [hw6]; exact HX5.out.drewN n6)
        have HO6 := Lib.hid (show ∃ vs : List Int, vs.length = s'.ids.length ∧ Ow kInt 3 w6 wx.heap.size (wx.heap.size ≤ ·) (.slice Ai s'.ids.length ci) vs from let ⟨vs, h1, h2⟩ := HO5.out; ⟨vs, h1, by rw [hw6]; exact h2.drewN n6⟩)
        clear hw6 hc5 HRF HR5 HO5 HX5
        obtain ⟨⟨x0, x1, x2, x3, x4, x5, x6, x7, x8, x9, x10, x11, x12⟩, -⟩ := msg_cells (blk_ext H7.out HX6.out)
        go_wp2_with fail
        refine (own_calls w6 _ _ m (HM1.out.ext HX6.out) HLM.out).mono ?_
        rintro e w7 ⟨mv, rfl, hmo, hx⟩
        obtain ⟨Ae3, ce3, Av3, cv3, Ad3, cd3, e3, -⟩ := hmo.v.form
        subst e3
        have HMO := Lib.hid hmo.b
        have HX7 := Lib.hid hx
        clear hmo hx x0 x1 x2 x3 x4 x5 x6 x7 x8 x9 x10 x11 x12
        dsimp only [msgC]
        go_wp2_with fail
        refine (turn_calls w7 w6.heap.size w7.heap.size _ m HMO.out (Nat.le_refl _)).mono ?_
        rintro e w8 ⟨rfl, hu⟩
        have hx68 : Ext w6 w8 := hu.ext HX7.out (fun b hb => hb.1)
        have HX8 := Lib.hid (HX6.out.trans hx68)
        have HO8 := Lib.hid (show ∃ vs : List Int, vs.length = s'.ids.length ∧ Ow kInt 3 w8 wx.heap.size (wx.heap.size ≤ ·) (.slice Ai s'.ids.length ci) vs from let ⟨vs, h1, h2⟩ := HO6.out; ⟨vs, h1, h2.ext hx68⟩)
        clear hu hx68 HX7 HX6 HO6 HMO
        go_wp2_with fail
        go_loopw [143] (fun i wy => ∃ j : Nat, j ≤ s'.ids.length ∧ i = .int .i64 j ∧ Hid (∃ vs : List Int, vs.length = s'.ids.length ∧ Ow kInt 3 wy wx.heap.size (wx.heap.size ≤ ·) (.slice Ai s'.ids.length ci) vs) ∧ Hid (Ext wx wy)) (fun i _ => s'.ids.length - (intOf i).toNat)
        case atStart => exact ⟨0, Nat.zero_le _, rfl, HO8, HX8⟩
        case round =>
          clear HO8 HX8
          obtain ⟨j, hj, rfl, HV, HY⟩ := hrel
          by_cases hjl : j < s'.ids.length
          · obtain ⟨vs, hvl, hov⟩ := HV.out
            obtain ⟨gi, cap, e, hgb, hgl, -, -⟩ := hov.form (by omega)
            rw [hvl] at e
            injection e with e1 e2 e3
            subst e1; subst e3
            have hov2 : Ow kInt 3 wr wx.heap.size (wx.heap.size ≤ ·) (.slice (some ⟨gi, 0, none⟩) vs.length ci) vs := by rw [hvl]; exact hov
            have hs1 := (hov2.scell j (by omega)).1
            have hs2 := (hov2.scell j (by omega)).2
            have hp := (hov2.sset (P := I64) (enc := fun n => .int .i64 n) (h1 := fun _ => rfl) j (-7) (by unfold I64; omega)).1
            rw [hvl] at hp
            have HV2 := Lib.hid (show ∃ vs : List Int, vs.length = s'.ids.length ∧ Ow kInt 3 (wr.setCell ⟨gi, j, none⟩ (.int .i64 (-7))) wx.heap.size (wx.heap.size ≤ ·) (.slice (some ⟨gi, 0, none⟩) s'.ids.length ci) vs from ⟨vs.set j (-7), by simpa using hvl, hp⟩)
            have HY2 := Lib.hid (HY.out.seti (g := gi) (i := j) hgb (.int .i64 (-7)))
            clear hov hov2 hp hgb hgl HV HY
            go_wp2_with fail
            go_roundw
            case rel => exact ⟨j + 1, by omega, by go_num, HV2, HY2⟩
            case measure => simp [intOf]; omega
          · obtain rfl : j = s'.ids.length := by omega
            have HPe := Lib.hid (HPx.out.ext HY.out)
            have HXe := Lib.hid (HXx.out.trans HY.out)
            clear hjl HV HY hzi
            go_wp2_with fail
            go_roundw
            case rel => exact ⟨k + 1, s', by omega, by go_num, HPe, HSx, HXe⟩
            case measure => simp [intOf]; omega
      · obtain rfl : k = l.length := by omega
        clear hlt
        go_wp2_with fail
        refine (awake_calls _).mono ?_
        rintro e w4 ⟨rfl, hx⟩
        have HX4 := Lib.hid (HX.out.trans hx)
        clear hx
        go_wp2_with fail
        go_ret
        exact ⟨rfl, HX4.out⟩
end Go.Proofs.Ytfflcnlgkbgbhaa
