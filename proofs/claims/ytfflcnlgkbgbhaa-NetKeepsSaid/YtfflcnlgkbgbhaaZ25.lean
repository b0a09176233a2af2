/-
  Texts of this claim, put together: SetRow, RBag, RBag2, PlayKit.
-/
import Derived.Test.YtfflcnlgkbgbhaaZ4
import Derived.Laws.Tables
import Derived.Laws.Rows
import Derived.Test.YtfflcnlgkbgbhaaZ24
import Derived.Test.YtfflcnlgkbgbhaaZ16
import Derived.Test.YtfflcnlgkbgbhaaZ14
import Derived.Test.YtfflcnlgkbgbhaaZ23
import Derived.Test.YtfflcnlgkbgbhaaZ21
set_option linter.unusedVariables false
set_option linter.unusedSimpArgs false
namespace Go.Proofs.Ytfflcnlgkbgbhaa
open Go.RowKit

theorem setRow_upd (W : World) (g : Nat) (cs : Array Value) : Upd (fun b => b = g) W (W.setRow g cs) :=
  ⟨rfl, rfl, rfl, by simp, fun k hk hn => by
    unfold World.setRow
    simp only [Array.getElem?_modify]
    rw [if_neg (fun e => hn (by show k = g; omega))]⟩
theorem Upd.row {S : Nat → Prop} {a b : World} (h : Upd S a b) {g : Nat} (hg : S g ∨ a.heap.size ≤ g) (cs : Array Value) : Upd S a (b.setRow g cs) :=
  ⟨h.os, h.tape, h.output, by simpa using h.size, fun k hk hn => by
    have hne : k ≠ g := fun e => by rcases hg with hg | hg; exact hn (e ▸ hg); omega
    exact ((setRow_upd b g cs).block k (Nat.lt_of_lt_of_le hk h.size) hne).trans (h.block k hk hn)⟩
end Go.Proofs.Ytfflcnlgkbgbhaa
set_option linter.unusedVariables false
set_option linter.unusedSimpArgs false
namespace Go.Proofs.Ytfflcnlgkbgbhaa
open Go.RowKit

theorem msgC_one (m : MsgS) (A1 A2 A3 : Option Addr) (n1 n2 n3 c1 c2 c3 : Nat) : (msgC m (.slice A1 n1 c1) (.slice A2 n2 c2) (.slice A3 n3 c3)).all (·.oneCell') = true := by
  simp [msgC, Value.oneCell']
theorem msg13a : (Try.prog.info? 26).map (·.size) = some 13 := by kernel_rfl
theorem msg13 (m : MsgS) (a b c : Value) : (Try.prog.info? 26).map (·.size) = some (msgC m a b c).size := msg13a
section
variable {w w' : World} {g : Nat} {B B' : Nat → Prop} {s : BagS}
theorem RefR.keep (h : RefR w g B s) (hk : ∀ b, (B b ∨ b = g) → b < w.heap.size → w'.heap[b]? = w.heap[b]?) : RefR w' g B s := by
  obtain ⟨A, c, A2, c2, h1, h2, h3, h4, h5, h6⟩ := h
  exact ⟨A, c, A2, c2, (hk g (.inr rfl) (blk_lt h1)).trans h1, h2.keep fun b hb hl => hk b (.inl hb) hl, h3.keep fun b hb hl => hk b (.inl hb) hl, h4, h5, h6⟩
theorem RefR.ext (h : RefR w g B s) (he : Ext w w') : RefR w' g B s := h.keep fun b _ hb => he.block b hb
theorem RefR.mono (h : RefR w g B s) (hB : ∀ b, B b → B' b) (hg : ¬ B' g) : RefR w g B' s := by
  obtain ⟨A, c, A2, c2, h1, h2, h3, h4, h5, h6⟩ := h
  exact ⟨A, c, A2, c2, h1, h2.mono hB, h3.mono hB, h4, h5, hg⟩
theorem RefR.bound (h : RefR w g B s) : RefR w g (fun b => B b ∧ b < w.heap.size) s := by
  obtain ⟨A, c, A2, c2, h1, h2, h3, h4, h5, h6⟩ := h
  exact ⟨A, c, A2, c2, h1, h2.bound, h3.bound, h4, h5, fun h => h6 h.1⟩
theorem RefR.lt (h : RefR w g B s) : g < w.heap.size := let ⟨_, _, _, _, h1, _⟩ := h; blk_lt h1
theorem RefR.ok (h : RefR w g B s) : BagOk s := let ⟨_, _, _, _, _, _, _, h4, _⟩ := h; h4
theorem RefR.nb (h : RefR w g B s) : ¬ B g := let ⟨_, _, _, _, _, _, _, _, _, h6⟩ := h; h6
end

set_option maxHeartbeats 800000 in
theorem RPlace_calls (w : World) (g : Nat) (B : Nat → Prop) (s : BagS) (n : Int) (h : RefR w g B s) :
    Calls Try.prog 61 #[.pointer (some ⟨g, 0, none⟩), .int .i64 n] w fun e w' => e = .returned (.int .i64 (s.at_ n)) ∧ w = w' := by
  obtain ⟨A, c, A2, c2, hb, _, hr, hok, _, _⟩ := h
  have hc1 : w.cell? ⟨g, 1, none⟩ = some (.slice A2 s.ids.length c2) := cell_blk hb 1
  have HR := Lib.hid hr.shape.2.2.2.2
  have h256 : s.ids.length ≤ 256 := by rw [hok.len]; exact hok.le
  clear hb hr hok
  go_enter Try.func61, Try.ntmps61
  go_wp2_with fail
  go_loop [11] (fun i => ∃ k : Nat, k ≤ s.ids.length ∧ i = .int .i64 k ∧ Hid (idxFrom s.ids n k = s.at_ n)) (fun i => s.ids.length - (intOf i).toNat)
  case atStart => exact ⟨0, Nat.zero_le _, rfl, Lib.hid (idxFrom_zero s.ids n)⟩
  case round =>
    obtain ⟨k, hk, rfl, HQ⟩ := hrel
    by_cases hlt : k < s.ids.length
    · obtain ⟨ad, rfl, hcell, _⟩ := HR.out.int hlt
      by_cases he : s.ids[k] = n
      · have HE := Lib.hid (show s.at_ n = k by rw [← HQ.out, ← he, idxFrom_hit s.ids k hlt])
        have hb : (s.ids[k] == n) = true := beq_iff_eq.2 he
        clear he
        generalize s.ids[k] = x at hcell hb
        go_wp2_with fail
        go_ret
        exact ⟨int_ret HE.out.symm, rfl⟩
      · have HE := Lib.hid (idxFrom_next s.ids n k hlt (Ne.symm he))
        have hb : (s.ids[k] == n) = false := beq_eq_false_iff_ne.2 he
        clear he
        generalize s.ids[k] = x at hcell hb
        go_wp2_with fail
        go_round
        case rel => exact ⟨k + 1, by omega, by go_num, Lib.hid (HE.out ▸ HQ.out)⟩
        case measure => simp [intOf]; omega
    · obtain rfl : k = s.ids.length := by omega
      clear hlt
      go_wp2_with fail
      go_ret
      exact ⟨int_ret (by rw [← HQ.out, idxFrom_end]), rfl⟩

set_option maxRecDepth 1000000 in
set_option maxHeartbeats 4000000 in
theorem RPeek_calls (w : World) (g : Nat) (B : Nat → Prop) (s : BagS) (n : Int) (h : RefR w g B s) :
    Calls Try.prog 23 #[.pointer (some ⟨g, 0, none⟩), .int .i64 n] w fun e w' => ∃ mv, e = .returned (.tuple #[mv, .int .i64 ((s.peek n).2 : Int)]) ∧ MsgV w' (fun b => B b ∧ b < w.heap.size) mv (s.peek n).1 ∧ Ext w w' := by
  have HN := Lib.hid h.bound
  have HCS := Lib.hid (at_lt n h.ok)
  have HOK := Lib.hid h.ok
  clear h
  go_enter Try.func23, Try.ntmps23
  go_wp2_with fail
  obtain ⟨w1, hw1⟩ : ∃ w1, w1 = w.alloc (.cells (msgC zeroM (.slice none 0 0) (.slice none 0 0) (.slice none 0 0)) 26) := ⟨_, rfl⟩
  have HB1 := Lib.hid (show w1.heap[w.heap.size]? = some (.cells (msgC zeroM (.slice none 0 0) (.slice none 0 0) (.slice none 0 0)) 26 (0, 0)) by rw [hw1]; exact heap_new w _ rfl _)
  have HX1 := Lib.hid (show Ext w w1 by rw [hw1]; exact (Ext.refl w).alloc _)
  unfold msgC zeroM at hw1
  rw [← hw1]
  clear hw1
  refine (RPlace_calls w1 g _ s n (HN.out.ext HX1.out)).mono ?_
  rintro e w2 ⟨rfl, rfl⟩
  obtain ⟨⟨x0, x1, x2, x3, x4, x5, x6, x7, x8, x9, x10, x11, x12⟩, ⟨y0, y1, y2, y3, y4, y5, y6, y7, y8, y9, y10, y11, y12⟩⟩ := msg_cells HB1.out
  simp only [zeroM] at x0 x1 x2 x3 x4 x5 x6 x7 x8 x9
  rcases HCS.out with h0 | ⟨i, h0, hi1, hi2⟩
  · have HP := Lib.hid (show s.peek n = (zeroM, 130) by unfold BagS.peek; rw [if_pos (by omega)])
    have HSM := Lib.hid (setM_heap w1 w.heap.size zeroM (.slice none 0 0) (.slice none 0 0) (.slice none 0 0) HB1.out)
    have HXM := Lib.hid ((setM_upd w1 w.heap.size zeroM (.slice none 0 0) (.slice none 0 0) (.slice none 0 0)).ext HX1.out (fun k hk => by have : k = w.heap.size := hk; omega))
    rw [h0]
    clear h0 HCS
    go_wp2_with fail
    (try simp only [Exit.inBlock, Exit.then])
    refine bodyPost_ret (results_msg rfl _ _ _ _ _ _ _ _ _ rfl HSM.out) rfl ?_
    rw [HP.out]
    exact ⟨_, rfl, zero_V _ _, HXM.out⟩
  · have HP := Lib.hid (show s.peek n = (s.ms[i], 0) by unfold BagS.peek; rw [if_neg (by omega), h0]; simp [List.getD, List.getElem?_eq_getElem hi2])
    obtain ⟨A, c, A2, c2, hb, hr, _, _, _, _⟩ := HN.out.ext HX1.out
    obtain ⟨ad, Ae, ce, Av, cv, Ad, cd, rfl, z0, z1, z2, z3, z4, z5, z6, z7, z8, z9, z10, z11, z12, hm⟩ := hr.shape.2.2.2.2.msg hi2
    have hcb : w1.cell? ⟨g, 0, none⟩ = some (.slice (some ad) s.ms.length c) := cell_blk hb 0
    have hi256 : i < 256 := by have := HOK.out.le; omega
    have HM := Lib.hid hm
    generalize s.ms[i] = m at z0 z1 z2 z3 z4 z5 z6 z7 z8 z9 z10 z11 z12 HM HP
    have HU := Lib.hid (setRow_upd w1 w.heap.size (msgC m (.slice Ae m.entries.length ce) (.slice Av m.voters.length cv) (.slice Ad m.data.length cd)))
    have HSM := Lib.hid (setRow_heap w1 w.heap.size _ (msgC m (.slice Ae m.entries.length ce) (.slice Av m.voters.length cv) (.slice Ad m.data.length cd)) 26 (0, 0) HB1.out)
    rw [h0]
    clear h0 HCS hb hr hm HN x0 x1 x2 x3 x4 x5 x6 x7 x8 x9 x10 x11 x12 y0 y1 y2 y3 y4 y5 y6 y7 y8 y9 y10 y11 y12
    go_wp2_with (refine wpList_store_row rfl 26 (.tmp 4) (.tmp 19) rfl w.heap.size (msgC m (.slice Ae m.entries.length ce) (.slice Av m.voters.length cv) (.slice Ad m.data.length cd)) rfl rfl 26 _ HB1.out (msg13 m _ _ _) rfl (msgC_one m _ _ _ _ _ _ _ _ _) ?_)
    go_wp2_with fail
    (try simp only [Exit.inBlock, Exit.then])
    refine bodyPost_ret (results_msg rfl _ _ _ _ _ _ _ _ _ rfl HSM.out) rfl ?_
    rw [HP.out]
    refine ⟨_, rfl, HM.out.keep fun k hk hl => HU.out.block k hl (fun e => by have e' : k = w.heap.size := e; have h' := hk.2; omega), HU.out.ext HX1.out (fun k hk => by have : k = w.heap.size := hk; omega)⟩

set_option maxRecDepth 1000000 in
set_option maxHeartbeats 4000000 in
theorem RLose_calls (w : World) (g : Nat) (B : Nat → Prop) (s : BagS) (n : Int) (h : RefR w g B s) :
    Calls Try.prog 27 #[.pointer (some ⟨g, 0, none⟩), .int .i64 n] w fun e w' => e = .returned (.int .i64 ((s.lose n).2 : Int)) ∧ RefR w' g (fun b => w.heap.size ≤ b ∨ B b) (s.lose n).1 ∧ Upd (fun b => b = g) w w' := by
  have HN := Lib.hid h
  have hok := h.ok
  have HBG := Lib.hid (show ¬ (w.heap.size ≤ g ∨ B g) by have h1 := h.lt; have h2 := h.nb; rintro (h3 | h3); omega; exact h2 h3)
  rcases at_lt n hok with h0 | ⟨i, h0, hi1, hi2⟩
  · have HL := Lib.hid (show s.lose n = (s, 130) by unfold BagS.lose; rw [if_pos (by omega)])
    have H0 := Lib.hid h0
    clear h0 hok h
    go_enter Try.func27, Try.ntmps27
    go_wp2_with fail
    refine (RPlace_calls w g B s n HN.out).mono ?_
    rw [H0.out]
    rintro e w' ⟨rfl, rfl⟩
    go_wp2_with fail
    go_ret
    rw [HL.out]
    exact ⟨rfl, HN.out.mono (fun b hb => .inr hb) HBG.out, Upd.refl _ _⟩
  · have HL := Lib.hid (show s.lose n = (⟨s.ms.eraseIdx i, s.ids.eraseIdx i, s.last⟩, 0) by unfold BagS.lose; rw [if_neg (by omega), h0]; rfl)
    have HOK := Lib.hid (show BagOk ⟨s.ms.eraseIdx i, s.ids.eraseIdx i, s.last⟩ by have h := lose_ok hok n; rw [HL.out] at h; exact h)
    have H0 := Lib.hid h0
    have hle := hok.le
    have hlen := hok.len
    obtain ⟨A, c, A2, c2, hb, hr, hr2, _, hl62, hBg⟩ := h
    have HB := Lib.hid hb
    have HR := Lib.hid hr
    have HR2 := Lib.hid hr2
    have HL62 := Lib.hid hl62
    clear h0 hok hb hr hr2 hl62
    go_enter Try.func27, Try.ntmps27
    go_wp2_with fail
    refine (RPlace_calls w g B s n HN.out).mono ?_
    rw [H0.out]
    rintro e w' ⟨rfl, rfl⟩
    go_upto_region 4 with fail
    refine rl4 g i B s A c (.int .i64 0) _ _ HB HR hBg hi2 hle ?_
    intros
    rename_i w2 hrel
    obtain ⟨A', c', hb2, hr2, hu2⟩ := hrel.out
    have HB2 := Lib.hid hb2
    have HR2b := Lib.hid (show Rs kInt w2 B (.slice A2 s.ids.length c2) s.ids from HR2.out.upd hu2 (fun b hb hb2 => hBg (by have hb2' : b = g := hb2; rw [← hb2']; exact hb)))
    have HRm := Lib.hid hr2
    have HU2 := Lib.hid hu2
    clear hrel hb2 hr2 hu2
    go_upto_region 5 with fail
    refine rl5 g i B s A2 c2 _ (.int .i64 0) _ HB2 HR2b hBg hi1 (by omega) ?_
    intros
    rename_i w3 hrel
    obtain ⟨A3, c3, hb3, hr3, hu3⟩ := hrel.out
    have hle2 := HU2.out.le
    have HREF := Lib.hid (show RefR w3 g (fun b => w.heap.size ≤ b ∨ B b) ⟨s.ms.eraseIdx i, s.ids.eraseIdx i, s.last⟩ from
      ⟨A', c', A3, c3, hb3, HRm.out.upd hu3 (fun b hb hb2 => HBG.out (by have hb2' : b = g := hb2; rw [← hb2']; exact hb)), hr3.mono (fun b hb => hb.elim (fun h => .inl (by omega)) .inr), HOK.out, HL62.out, HBG.out⟩)
    have HU3 := Lib.hid (HU2.out.trans hu3)
    clear hrel hb3 hr3 hu3 hle2 HB2 HR2b HRm HU2
    go_wp2_with fail
    go_ret
    rw [HL.out]
    exact ⟨rfl, HREF.out, HU3.out⟩

set_option maxRecDepth 1000000 in
set_option maxHeartbeats 4000000 in
theorem RTake_calls (w : World) (g : Nat) (B : Nat → Prop) (s : BagS) (n : Int) (h : RefR w g B s) :
    Calls Try.prog 25 #[.pointer (some ⟨g, 0, none⟩), .int .i64 n] w fun e w' => ∃ mv, e = .returned (.tuple #[mv, .int .i64 ((s.peek n).2 : Int)]) ∧ MsgV w' (fun b => B b ∧ b < w.heap.size) mv (s.peek n).1 ∧ RefR w' g (fun b => w.heap.size ≤ b ∨ B b) (s.lose n).1 ∧ Upd (fun b => b = g) w w' := by
  obtain ⟨B', hB'⟩ : ∃ B' : Nat → Prop, B' = fun b => B b ∧ b < w.heap.size := ⟨_, rfl⟩
  have HN := Lib.hid (show RefR w g B' s by rw [hB']; exact h.bound)
  have HB' := Lib.hid (show ∀ b, B' b → B b ∧ b < w.heap.size by rw [hB']; exact fun b hb => hb)
  have HGL := Lib.hid h.lt
  have HBG := Lib.hid h.nb
  rw [← hB']
  clear h hB'
  go_enter Try.func25, Try.ntmps25
  go_wp2_with fail
  obtain ⟨w1, hw1⟩ : ∃ w1, w1 = w.alloc (.cells (msgC zeroM (.slice none 0 0) (.slice none 0 0) (.slice none 0 0)) 26) := ⟨_, rfl⟩
  have HB1 := Lib.hid (show w1.heap[w.heap.size]? = some (.cells (msgC zeroM (.slice none 0 0) (.slice none 0 0) (.slice none 0 0)) 26 (0, 0)) by rw [hw1]; exact heap_new w _ rfl _)
  have HX1 := Lib.hid (show Ext w w1 by rw [hw1]; exact (Ext.refl w).alloc _)
  have HS1 := Lib.hid (show w1.heap.size = w.heap.size + 1 by rw [hw1]; simp)
  unfold msgC zeroM at hw1
  rw [← hw1]
  clear hw1
  refine (RPeek_calls w1 g B' s n (HN.out.ext HX1.out)).mono ?_
  rintro e w2 ⟨mv, rfl, hm, hx⟩
  have HB2 := Lib.hid (blk_ext HB1.out hx)
  have HX2 := Lib.hid (HX1.out.trans hx)
  have HM := Lib.hid (hm.mono (S' := B') fun k hk => hk.1)
  obtain ⟨Ae, ce, Av, cv, Ad, cd, rfl, -⟩ := hm.form
  clear hm hx HB1 HX1
  generalize hpe0 : (s.peek n).2 = pe
  generalize hm0 : (s.peek n).1 = m at HM ⊢
  have HPE := Lib.hid (show s.peek n = (m, pe) by rw [← hm0, ← hpe0])
  clear hpe0 hm0
  dsimp only [msgC]
  go_upto_region 2 with fail
  obtain ⟨w3, hw3⟩ : ∃ w3, w3 = w2.alloc (.cells (msgC m (.slice Ae m.entries.length ce) (.slice Av m.voters.length cv) (.slice Ad m.data.length cd)) 26) := ⟨_, rfl⟩
  have HB3 := Lib.hid (show w3.heap[w.heap.size]? = some (.cells (msgC zeroM (.slice none 0 0) (.slice none 0 0) (.slice none 0 0)) 26 (0, 0)) by rw [hw3]; exact blk_ext HB2.out ((Ext.refl w2).alloc _))
  have HC3 := Lib.hid (show w3.heap[w2.heap.size]? = some (.cells (msgC m (.slice Ae m.entries.length ce) (.slice Av m.voters.length cv) (.slice Ad m.data.length cd)) 26 (0, 0)) by rw [hw3]; exact heap_new w2 _ rfl _)
  have HX3 := Lib.hid (show Ext w w3 by rw [hw3]; exact HX2.out.alloc _)
  have HM3 := Lib.hid (show MsgV w3 B' (.agg (msgC m (.slice Ae m.entries.length ce) (.slice Av m.voters.length cv) (.slice Ad m.data.length cd))) m by rw [hw3]; exact HM.out.ext ((Ext.refl w2).alloc _))
  unfold msgC at hw3
  rw [← hw3]
  clear hw3 HB2 HM
  go_wp2_with fail
  refine (RLose_calls w3 g B' s n (HN.out.ext HX3.out)).mono ?_
  rintro e w4 ⟨rfl, hn4, hu4⟩
  have hgl := HGL.out
  have hx2 := HX2.out.le
  have hb4 := blk_upd HB3.out hu4 (by omega)
  have hc4 := blk_upd HC3.out hu4 (by omega)
  have hm4 := HM3.out.keep (w' := w4) fun k hk hl => hu4.block k hl fun e => by
    have e' : k = g := e
    exact HBG.out (HB'.out g (e' ▸ hk)).1
  have hu := setM_upd w4 w.heap.size m (.slice Ae m.entries.length ce) (.slice Av m.voters.length cv) (.slice Ad m.data.length cd)
  have h3s : w.heap.size + 1 ≤ w3.heap.size := Nat.succ_le_of_lt (blk_lt HB3.out)
  have H1 := Lib.hid (setM_heap w4 w.heap.size m (.slice Ae m.entries.length ce) (.slice Av m.voters.length cv) (.slice Ad m.data.length cd) hb4)
  have H2 := Lib.hid (hm4.keep fun k hk hl => hu.block k hl fun e => by have e' : k = w.heap.size := e; have := (HB'.out k hk).2; omega)
  have H3 := Lib.hid ((hn4.keep (w' := setM w4 w.heap.size m (.slice Ae m.entries.length ce) (.slice Av m.voters.length cv) (.slice Ad m.data.length cd)) fun b hb hl => hu.block b hl fun e => by
      have e' : b = w.heap.size := e
      rcases hb with (hb | hb) | hb
      · omega
      · have := (HB'.out b hb).2; omega
      · omega).mono (B' := fun b => w.heap.size ≤ b ∨ B b) (fun b hb => hb.elim (fun h => .inl (by omega)) (fun h => .inr (HB'.out b h).1)) (fun h => h.elim (fun h => by omega) HBG.out))
  have H4 := Lib.hid (((HX3.out.upd (fun b => b = g)).trans hu4).then_ hu fun x hx => .inr (by have hx' : x = w.heap.size := hx; omega))
  obtain ⟨⟨x0, x1, x2, x3, x4, x5, x6, x7, x8, x9, x10, x11, x12⟩, ⟨y0, y1, y2, y3, y4, y5, y6, y7, y8, y9, y10, y11, y12⟩⟩ := msg_cells hb4
  simp only [zeroM] at x0 x1 x2 x3 x4 x5 x6 x7 x8 x9
  obtain ⟨⟨z0, z1, z2, z3, z4, z5, z6, z7, z8, z9, z10, z11, z12⟩, -⟩ := msg_cells hc4
  clear hn4 hu4 hb4 hc4 hm4 hu
  go_wp2_with fail
  (try simp only [Exit.inBlock, Exit.then])
  refine bodyPost_ret (results_msg rfl _ _ _ _ _ _ _ _ _ rfl H1.out) rfl ?_
  rw [HPE.out]
  exact ⟨_, rfl, H2.out, H3.out, H4.out⟩

set_option maxRecDepth 1000000 in
set_option maxHeartbeats 8000000 in
theorem RSend_calls (w : World) (g : Nat) (B T : Nat → Prop) (s : BagS) (v : Value) (l : List MsgS) (hl : s.last + (l.length : Int) ≤ 4611686018427387904) (h : RefR w g B s) (hT : ¬ T g) (hr : Rs kMsg w T v l) :
    Calls Try.prog 31 #[.pointer (some ⟨g, 0, none⟩), v] w fun e w' => e = .returned (.int .i64 ((s.send l).2 : Int)) ∧ RefR w' g (fun b => w.heap.size ≤ b ∨ B b ∨ T b) (s.send l).1 ∧ Upd (fun b => b = g) w w' := by
  have HRL := Lib.hid hr
  have HLS := Lib.hid hl
  have HGL := Lib.hid h.lt
  have HBG := Lib.hid (show ¬ (w.heap.size ≤ g ∨ B g ∨ T g) by have h1 := h.lt; have h2 := h.nb; rintro (h3 | h3 | h3); omega; exact h2 h3; exact hT h3)
  have HN := Lib.hid (h.mono (B' := fun b => w.heap.size ≤ b ∨ B b ∨ T b) (fun b hb => .inr (.inl hb)) HBG.out)
  obtain ⟨Al, cl, rfl, -, -, hlz, -⟩ := hr
  clear hl h
  go_enter Try.func31, Try.ntmps31
  go_wp2_with fail
  go_loopw [5, 10] (fun sv i wr => ∃ (k n1 : Nat) (s1 : BagS), k ≤ l.length ∧ i = .int .i64 k ∧ sv = .int .i64 (n1 : Int) ∧ Hid (s.send (l.take k) = (s1, n1)) ∧ Hid (RefR wr g (fun b => w.heap.size ≤ b ∨ B b ∨ T b) s1) ∧ Hid (Upd (fun b => b = g) w wr)) (fun _ i _ => l.length - (intOf i).toNat)
  case atStart => exact ⟨0, 0, s, Nat.zero_le _, rfl, rfl, Lib.hid rfl, HN, Lib.hid (Upd.refl _ _)⟩
  case round =>
    clear HN
    obtain ⟨k, n1, s1, hk, rfl, rfl, HQ, HN, HU⟩ := hrel
    by_cases hlt : k < l.length
    · obtain ⟨ad, Ae, ce, Av, cv, Ad, cd, rfl, z0, z1, z2, z3, z4, z5, z6, z7, z8, z9, z10, z11, z12, hm⟩ := (HRL.out.upd HU.out (fun b hb e => hT (e ▸ hb))).shape.2.2.2.2.msg hlt
      have HST := Lib.hid (show s.send (l.take (k + 1)) = BagS.step (s1, n1) l[k] by rw [send_take s l k hlt, HQ.out])
      have hsl := send_last s (l.take k)
      rw [HQ.out, List.length_take] at hsl
      simp only at hsl
      have HLA := Lib.hid (show s1.last + 1 ≤ 4611686018427387904 by have := HLS.out; omega)
      have HN1 := Lib.hid (show n1 ≤ k by omega)
      have HM := Lib.hid hm
      clear hsl hm
      generalize l[k] = m at z0 z1 z2 z3 z4 z5 z6 z7 z8 z9 z10 z11 z12 HST HM
      go_upto_region 5 with fail
      obtain ⟨wa, hwa⟩ : ∃ wa, wa = wr.alloc (.cells (msgC m (.slice Ae m.entries.length ce) (.slice Av m.voters.length cv) (.slice Ad m.data.length cd)) 26) := ⟨_, rfl⟩
      have HBa := Lib.hid (show wa.heap[wr.heap.size]? = some (.cells (msgC m (.slice Ae m.entries.length ce) (.slice Av m.voters.length cv) (.slice Ad m.data.length cd)) 26 (0, 0)) by rw [hwa]; exact heap_new wr _ rfl _)
      have HXa := Lib.hid (show Ext wr wa by rw [hwa]; exact (Ext.refl wr).alloc _)
      have HMa := Lib.hid (HM.out.ext HXa.out)
      have HNa := Lib.hid (HN.out.ext HXa.out)
      have HUa := Lib.hid (HU.out.trans (HXa.out.upd _))
      unfold msgC at hwa
      rw [← hwa]
      obtain ⟨q, hq⟩ : ∃ q, q = wr.heap.size := ⟨_, rfl⟩
      rw [← hq] at HBa ⊢
      have HQG := Lib.hid (show q ≠ g by have h1 := HGL.out; have h2 := HU.out.le; omega)
      clear hwa hq HM HN HU HXa z0 z1 z2 z3 z4 z5 z6 z7 z8 z9 z10 z11 z12
      obtain ⟨⟨x0, x1, x2, x3, x4, x5, x6, x7, x8, x9, x10, x11, x12⟩, -⟩ := msg_cells HBa.out
      go_wp2_with fail
      refine (RMCheck_calls wa T _ m HMa.out).mono ?_
      rintro e w2 ⟨rfl, hx⟩
      have HM2 := Lib.hid (HMa.out.ext hx)
      have HN2 := Lib.hid (HNa.out.ext hx)
      have HB2 := Lib.hid (blk_ext HBa.out hx)
      have HU2 := Lib.hid (HUa.out.trans (hx.upd _))
      clear hx x0 x1 x2 x3 x4 x5 x6 x7 x8 x9 x10 x11 x12 HMa HNa HBa HUa
      cases hck : chkM m
      · have HS2 := Lib.hid (show s.send (l.take (k + 1)) = (s1, n1) by rw [HST.out]; unfold BagS.step; rw [if_neg (fun h => by rw [hck] at h; cases h.1)])
        rw [chkME_no hck]
        clear hck HST
        go_wp2_with fail
        go_roundw
        case rel => exact ⟨k + 1, n1, s1, by omega, by go_num, rfl, HS2, HN2, HU2⟩
        case measure => simp [intOf]; omega
      · rw [chkME_yes hck]
        have HCK := Lib.hid hck
        clear hck
        obtain ⟨A, c, A2, c2, hb, hr, hr2, hok, hl62, hBg⟩ := HN2.out
        have hc0 : w2.cell? ⟨g, 0, none⟩ = some (.slice A s1.ms.length c) := cell_blk hb 0
        have hle := hok.le
        by_cases h256 : s1.ms.length < 256
        · have hne6 : ((s1.ms.length : Int) == 256) = false := beq_eq_false_iff_ne.2 (by omega)
          have HS2 := Lib.hid (show s.send (l.take (k + 1)) = (⟨s1.ms ++ [m], s1.ids ++ [s1.last + 1], s1.last + 1⟩, n1 + 1) by rw [HST.out]; unfold BagS.step; rw [if_pos ⟨HCK.out, h256⟩])
          have HOK2 := Lib.hid (show BagOk ⟨s1.ms ++ [m], s1.ids ++ [s1.last + 1], s1.last + 1⟩ by
            have h := step_ok (a := (s1, n1)) hok m
            unfold BagS.step at h
            rw [if_pos ⟨HCK.out, h256⟩] at h
            exact h)
          have hc2 : w2.cell? ⟨g, 2, none⟩ = some (.int .i64 s1.last) := cell_blk hb 2
          have hf2 : w2.frozen? ⟨g, 2, none⟩ = false := frozen_blk hb 2
          have hlo := hok.lo
          have hlen := hok.len
          obtain ⟨w3, hw3⟩ : ∃ w3, w3 = w2.setCell ⟨g, 2, none⟩ (.int .i64 (s1.last + 1)) := ⟨_, rfl⟩
          have hu3 : Upd (fun b => b = g) w2 w3 := by rw [hw3]; exact upd_at (Upd.refl _ _) 2 _
          have HB3 := Lib.hid (show w3.heap[g]? = some (.cells #[.slice A s1.ms.length c, .slice A2 s1.ids.length c2, .int .i64 (s1.last + 1)] 50 (0, 0)) by rw [hw3]; exact heap_setCell_same w2 g 2 _ _ _ hb)
          have HQ3 := Lib.hid (show w3.heap[q]? = some (.cells (msgC m (.slice Ae m.entries.length ce) (.slice Av m.voters.length cv) (.slice Ad m.data.length cd)) 26 (0, 0)) from blk_upd HB2.out hu3 HQG.out)
          have hBsub : ∀ b, (w.heap.size ≤ b ∨ B b ∨ T b) → ¬ b = g := fun b hb e => hBg (e ▸ hb)
          have HR3 := Lib.hid (hr.upd hu3 hBsub)
          have HI3 := Lib.hid (hr2.upd hu3 hBsub)
          have HM3 := Lib.hid (show MsgV w3 T (.agg (msgC m (.slice Ae m.entries.length ce) (.slice Av m.voters.length cv) (.slice Ad m.data.length cd))) m from HM2.out.keep fun b hb hl => hu3.block b hl fun e => hT (e ▸ hb))
          have HU3 := Lib.hid (HU2.out.trans hu3)
          have hw1 : IntKind.i64.wrap (s1.last + 1) = s1.last + 1 := IntWalk.i64_in _ (by omega)
          have HIL := Lib.hid (show I64 (s1.last + 1) from ⟨by omega, by have := HLA.out; omega⟩)
          clear hb hr hr2 hok h256 HST hu3 HN2 HB2 HM2
          go_upto_region 7 with fail
          rw [← hw3]
          clear hw3 hc0 hc2 hf2 hlo hw1 hne6
          refine rs7 g q (fun b => w.heap.size ≤ b ∨ B b ∨ T b) T s1 m A Ae Av Ad c ce cv cd _ (s1.last + 1) HB3 HQ3 HR3 HM3 hBg hT HQG.out hle ?_
          intros
          rename_i w4 hrel
          obtain ⟨A4, c4, hb4, hr4, hu4⟩ := hrel.out
          have HB4 := Lib.hid hb4
          have HR4 := Lib.hid hr4
          have HI4 := Lib.hid (HI3.out.upd hu4 hBsub)
          have HU4 := Lib.hid (HU3.out.trans hu4)
          have HW3 := Lib.hid HU3.out.le
          clear hrel hb4 hr4 hu4 HB3 HQ3 HR3 HM3 HI3 HU3
          go_upto_region 8 with fail
          refine rs8 g (fun b => w.heap.size ≤ b ∨ B b ∨ T b) (fun _ => False) s1 A2 c2 _ HB4 HI4 hBg (fun h => h) HIL.out (by omega) ?_
          intros
          rename_i w5 hrel
          obtain ⟨A5, c5, hb5, hr5, hu5⟩ := hrel.out
          have hw4 := HU4.out.le
          have hw3l := HW3.out
          have HN5 := Lib.hid (show RefR w5 g (fun b => w.heap.size ≤ b ∨ B b ∨ T b) ⟨s1.ms ++ [m], s1.ids ++ [s1.last + 1], s1.last + 1⟩ from
            ⟨A4, c4, A5, c5, hb5, (HR4.out.mono (S' := fun b => w.heap.size ≤ b ∨ B b ∨ T b) (fun b hb => by
              rcases hb with hb | hb | hb
              · exact .inl (by omega)
              · exact hb
              · exact .inr (.inr hb))).upd hu5 hBsub, hr5.mono (fun b hb => by
              rcases hb with hb | hb | hb
              · exact .inl (by omega)
              · exact hb
              · exact hb.elim), HOK2.out, HLA.out, hBg⟩)
          have HU5 := Lib.hid (HU4.out.trans hu5)
          have hn1 := HN1.out
          clear hrel hb5 hr5 hu5 hw4 hw3l HB4 HR4 HI4 HU4 hBsub
          go_wp2_with fail
          go_roundw
          case rel => exact ⟨k + 1, n1 + 1, _, by omega, by go_num, by go_num, HS2, HN5, HU5⟩
          case measure => simp [intOf]; omega
        · have hne6 : ((s1.ms.length : Int) == 256) = true := beq_iff_eq.2 (by omega)
          have HS2 := Lib.hid (show s.send (l.take (k + 1)) = (s1, n1) by rw [HST.out]; unfold BagS.step; rw [if_neg (fun h => h256 h.2)])
          clear hb hr hr2 hok h256 HST
          go_wp2_with fail
          go_roundw
          case rel => exact ⟨k + 1, n1, s1, by omega, by go_num, rfl, HS2, HN2, HU2⟩
          case measure => simp [intOf]; omega
    · obtain rfl : k = l.length := by omega
      have HF := Lib.hid (show s.send l = (s1, n1) by have h := HQ.out; rw [List.take_length] at h; exact h)
      clear hlt HQ
      go_wp2_with fail
      go_ret
      rw [HF.out]
      exact ⟨rfl, HN.out, HU.out⟩
end Go.Proofs.Ytfflcnlgkbgbhaa
set_option linter.unusedVariables false
set_option linter.unusedSimpArgs false
namespace Go.Proofs.Ytfflcnlgkbgbhaa
open Go.RowKit

set_option maxRecDepth 1000000 in
set_option maxHeartbeats 4000000 in
theorem RDouble_calls (w : World) (g : Nat) (B : Nat → Prop) (s : BagS) (n : Int) (hl : s.last + 1 ≤ 4611686018427387904) (h : RefR w g B s) :
    Calls Try.prog 29 #[.pointer (some ⟨g, 0, none⟩), .int .i64 n] w fun e w' => e = .returned (.int .i64 ((s.double n).2 : Int)) ∧ RefR w' g (fun b => w.heap.size ≤ b ∨ B b) (s.double n).1 ∧ Upd (fun b => b = g) w w' := by
  have HN := Lib.hid h
  have HLS := Lib.hid hl
  have HNB := Lib.hid h.nb
  have HBG := Lib.hid (show ¬ (w.heap.size ≤ g ∨ B g) by have h1 := h.lt; have h2 := h.nb; rintro (h3 | h3); omega; exact h2 h3)
  have HGL := Lib.hid h.lt
  clear h hl
  go_enter Try.func29, Try.ntmps29
  go_wp2_with fail
  refine (RPeek_calls w g B s n HN.out).mono ?_
  rintro e w2 ⟨mv, rfl, hm, hx⟩
  have HX2 := Lib.hid hx
  have HM := Lib.hid (hm.mono (S' := B) fun b hb => hb.1)
  obtain ⟨Ae, ce, Av, cv, Ad, cd, rfl, -⟩ := hm.form
  clear hm hx
  generalize hpe0 : (s.peek n).2 = pe
  generalize hm0 : (s.peek n).1 = m at HM ⊢
  have HPE := Lib.hid (show s.peek n = (m, pe) by rw [← hm0, ← hpe0])
  clear hpe0 hm0
  dsimp only [msgC]
  go_upto_region 2 with fail
  obtain ⟨w3, hw3⟩ : ∃ w3, w3 = w2.alloc (.cells (msgC m (.slice Ae m.entries.length ce) (.slice Av m.voters.length cv) (.slice Ad m.data.length cd)) 26) := ⟨_, rfl⟩
  have HC3 := Lib.hid (show w3.heap[w2.heap.size]? = some (.cells (msgC m (.slice Ae m.entries.length ce) (.slice Av m.voters.length cv) (.slice Ad m.data.length cd)) 26 (0, 0)) by rw [hw3]; exact heap_new w2 _ rfl _)
  have HX3 := Lib.hid (show Ext w w3 by rw [hw3]; exact HX2.out.alloc _)
  have HM3 := Lib.hid (show MsgV w3 B (.agg (msgC m (.slice Ae m.entries.length ce) (.slice Av m.voters.length cv) (.slice Ad m.data.length cd))) m by rw [hw3]; exact HM.out.ext ((Ext.refl w2).alloc _))
  unfold msgC at hw3
  rw [← hw3]
  clear hw3 HM
  by_cases hpe : pe = 0
  · subst hpe
    obtain ⟨⟨z0, z1, z2, z3, z4, z5, z6, z7, z8, z9, z10, z11, z12⟩, -⟩ := msg_cells HC3.out
    go_wp2_with fail
    obtain ⟨w4, hw4⟩ : ∃ w4, w4 = w3.alloc (.cells (msgC m (.slice Ae m.entries.length ce) (.slice Av m.voters.length cv) (.slice Ad m.data.length cd)) 26) := ⟨_, rfl⟩
    have HC4 := Lib.hid (show w4.heap[w3.heap.size]? = some (.cells (msgC m (.slice Ae m.entries.length ce) (.slice Av m.voters.length cv) (.slice Ad m.data.length cd)) 26 (0, 0)) by rw [hw4]; exact heap_new w3 _ rfl _)
    have HX4 := Lib.hid (show Ext w w4 by rw [hw4]; exact HX3.out.alloc _)
    have HM4 := Lib.hid (show MsgV w4 B (.agg (msgC m (.slice Ae m.entries.length ce) (.slice Av m.voters.length cv) (.slice Ad m.data.length cd))) m by rw [hw4]; exact HM3.out.ext ((Ext.refl w3).alloc _))
    unfold msgC at hw4
    rw [← hw4]
    clear hw4 z0 z1 z2 z3 z4 z5 z6 z7 z8 z9 z10 z11 z12 HM3 HC3
    refine (RSend_calls w4 g B (fun b => B b ∨ b = w3.heap.size) s _ [m] (by have := HLS.out; simpa using this) (HN.out.ext HX4.out) (by have h1 := HGL.out; have h2 := HX3.out.le; have h3 := HNB.out; rintro (h4 | h4); exact h3 h4; omega) (Rs.one_msg HC4.out (.inr rfl) (HM4.out.mono fun b hb => .inl hb))).mono ?_
    rintro e w5 ⟨rfl, hn5, hu5⟩
    have HN5 := Lib.hid (hn5.mono (B' := fun b => w.heap.size ≤ b ∨ B b) (fun b hb => by
      have h1 := HX4.out.le
      have h2 := HX3.out.le
      rcases hb with hb | hb | hb | hb
      · exact .inl (by omega)
      · exact .inr hb
      · exact .inr hb
      · exact .inl (by omega)) HBG.out)
    have HU5 := Lib.hid ((HX4.out.upd _).trans hu5)
    clear hn5 hu5
    have HD := Lib.hid (show s.double n = ((s.send [m]).1, if (s.send [m]).2 = 0 then 7 else 0) by unfold BagS.double; rw [HPE.out]; rfl)
    obtain ⟨s', c', hsc⟩ := asPair (s.send [m])
    rw [hsc] at HN5 HD ⊢
    clear hsc
    by_cases hc : c' = 0
    · subst hc
      go_wp2_with fail
      go_ret
      rw [HD.out]
      exact ⟨rfl, HN5.out, HU5.out⟩
    · have hcb : ((c' : Int) == 0) = false := beq_eq_false_iff_ne.2 (by omega)
      have HC := Lib.hid (show s.double n = (s', 0) by rw [HD.out]; simp only [if_neg hc])
      dsimp only
      go_wp2_with fail
      go_ret
      rw [HC.out]
      exact ⟨rfl, HN5.out, HU5.out⟩
  · have hcb : ((pe : Int) != 0) = true := bne_iff_ne.2 (by omega)
    have HD := Lib.hid (show s.double n = (s, pe) by unfold BagS.double; rw [HPE.out, if_pos hpe])
    clear hpe
    go_wp2_with fail
    go_ret
    rw [HD.out]
    exact ⟨rfl, (HN.out.ext HX3.out).mono (fun b hb => .inr hb) HBG.out, HX3.out.upd _⟩
end Go.Proofs.Ytfflcnlgkbgbhaa
set_option linter.unusedVariables false
set_option linter.unusedSimpArgs false
namespace Go.Proofs.Ytfflcnlgkbgbhaa
open Go.RowKit

def BE (E : Nat → Prop) : Nat → Prop := fun b => ¬ E b
/-- Blocks that no message lies in: the two bags' own among them. -/
structure PE (w : World) (E : Nat → Prop) (g g2 : Nat) : Prop where
  ne : g ≠ g2
  g1 : E g
  g2' : E g2
  lt : ∀ b, E b → b < w.heap.size
/-- net's bag at block g, the reference's at g2: the same messages. -/
def PlayR (w : World) (E : Nat → Prop) (g g2 : Nat) (s : BagS) : Prop := NetR w g (BE E) s ∧ RefR w g2 (BE E) s ∧ PE w E g g2
section
variable {w w' : World} {E E' : Nat → Prop} {g g2 : Nat} {s s' : BagS}
theorem PE.le (h : PE w E g g2) (hl : w.heap.size ≤ w'.heap.size) : PE w' E g g2 := ⟨h.ne, h.g1, h.g2', fun b hb => Nat.lt_of_lt_of_le (h.lt b hb) hl⟩
theorem PlayR.ext (h : PlayR w E g g2 s) (he : Ext w w') : PlayR w' E g g2 s := ⟨h.1.ext he, h.2.1.ext he, h.2.2.le he.le⟩
theorem PlayR.net (h : PlayR w E g g2 s) : NetR w g (BE E) s := h.1
theorem PlayR.ref (h : PlayR w E g g2 s) : RefR w g2 (BE E) s := h.2.1
theorem PlayR.ok (h : PlayR w E g g2 s) : BagOk s := h.1.ok
theorem BE.grow {T : Nat → Prop} (h : PE w E g g2) (hT : ∀ b, T b → BE E b) : ∀ b, (w.heap.size ≤ b ∨ T b) → BE E b := fun b hb => by
  rcases hb with hb | hb
  · exact fun he => by have := h.lt b he; omega
  · exact hT b hb
theorem PlayR.net1 (h : PlayR w E g g2 s) (hn : NetR w' g (fun b => w.heap.size ≤ b ∨ BE E b) s') (hu : Upd (fun b => b = g) w w') : NetR w' g (BE E) s' ∧ RefR w' g2 (BE E) s := by
  refine ⟨hn.mono (BE.grow h.2.2 fun b hb => hb) (fun hb => hb h.2.2.g1), h.2.1.keep fun b hb hl => hu.block b hl fun e => ?_⟩
  have e' : b = g := e
  subst e'
  rcases hb with hb | hb
  · exact hb h.2.2.g1
  · exact h.2.2.ne hb
theorem PlayR.ref1 (hn : NetR w g (BE E) s') (hE : PE w E g g2) {T : Nat → Prop} (hT : ∀ b, T b → BE E b) (hr : RefR w' g2 (fun b => w.heap.size ≤ b ∨ T b) s') (hu : Upd (fun b => b = g2) w w') : PlayR w' E g g2 s' := by
  refine ⟨hn.keep fun b hb hl => hu.block b hl fun e => ?_, hr.mono (BE.grow hE hT) (fun hb => hb hE.g2'), hE.le hu.le⟩
  have e' : b = g2 := e
  subst e'
  rcases hb with hb | hb
  · exact hb hE.g2'
  · exact hE.ne hb.symm
/-- More blocks that no message lies in: they are new. -/
theorem PlayR.more (h : PlayR w E g g2 s) (he : Ext w w') (h1 : ∀ b, E b → E' b) (h2 : ∀ b, E' b → E b ∨ w.heap.size ≤ b) (h3 : ∀ b, E' b → b < w'.heap.size) : PlayR w' E' g g2 s :=
  ⟨(h.1.bound.ext he).mono (fun b hb he' => (h2 b he').elim hb.1 fun h => by have := hb.2; omega) (fun hb => hb (h1 _ h.2.2.g1)),
   (h.2.1.bound.ext he).mono (fun b hb he' => (h2 b he').elim hb.1 fun h => by have := hb.2; omega) (fun hb => hb (h1 _ h.2.2.g2')), h.2.2.ne, h1 _ h.2.2.g1, h1 _ h.2.2.g2', h3⟩
theorem PlayR.less (h : PlayR w E g g2 s) (h1 : ∀ b, E' b → E b) (hg : E' g) (hg2 : E' g2) : PlayR w E' g g2 s :=
  ⟨h.1.mono (fun b hb he => hb (h1 b he)) (fun hb => hb hg), h.2.1.mono (fun b hb he => hb (h1 b he)) (fun hb => hb hg2), h.2.2.ne, hg, hg2, fun b hb => h.2.2.lt b (h1 b hb)⟩
theorem PlayR.upd {S : Nat → Prop} (h : PlayR w E g g2 s) (hu : Upd S w w') (hS : ∀ b, S b → E b ∧ b ≠ g ∧ b ≠ g2) : PlayR w' E g g2 s :=
  ⟨h.1.keep fun b hb hl => hu.block b hl fun hs => by
      rcases hb with hb | hb
      · exact hb (hS b hs).1
      · exact (hS b hs).2.1 hb, h.2.1.keep fun b hb hl => hu.block b hl fun hs => by
      rcases hb with hb | hb
      · exact hb (hS b hs).1
      · exact (hS b hs).2.2 hb, h.2.2.le hu.le⟩
theorem PlayR.split (hn : NetR w g (BE E) s) (hr : RefR w g2 (BE E) s') {S : Nat → Prop} (hE : PE w E g g2) (hu : Upd S w w') (hS : ∀ b, S b → E b ∧ b ≠ g ∧ b ≠ g2) : NetR w' g (BE E) s ∧ RefR w' g2 (BE E) s' :=
  ⟨hn.keep fun b hb hl => hu.block b hl fun hs => by
      rcases hb with hb | hb
      · exact hb (hS b hs).1
      · exact (hS b hs).2.1 hb, hr.keep fun b hb hl => hu.block b hl fun hs => by
      rcases hb with hb | hb
      · exact hb (hS b hs).1
      · exact (hS b hs).2.2 hb⟩
end

theorem chkM_light {m : MsgS} (h : chkM m = true) : LightM m := by
  have hc := chkM_iff h
  have h7 : m.voters.length ≤ 7 := by
    by_cases hk : m.kind = 5
    · exact chk_le7 (hc.v5 hk)
    · rw [hc.v0 hk]; simp
  have h8 := hc.len
  have hd := hc.dlen
  exact ⟨by omega, by omega, by omega, fun e he => by have := (entsB_mem hc.ents e he).2.2.2.2; omega⟩
theorem zeroM_light : LightM zeroM := ⟨by simp [zeroM], by simp [zeroM], by simp [zeroM], fun e he => by simp [zeroM] at he⟩
theorem peek_light {s : BagS} (h : BagOk s) (id : Int) : LightM (s.peek id).1 := by
  unfold BagS.peek
  split
  · exact zeroM_light
  · show LightM (s.ms.getD _ zeroM)
    rw [List.getD_eq_getElem?_getD]
    rcases hx : s.ms[(s.at_ id).toNat]? with _ | x
    · exact zeroM_light
    · exact chkM_light (h.chk x (List.mem_of_getElem? hx))

theorem lose_last (s : BagS) (id : Int) : (s.lose id).1.last = s.last := by unfold BagS.lose; split <;> rfl
theorem double_last (s : BagS) (id : Int) : (s.double id).1.last ≤ s.last + 1 := by
  unfold BagS.double
  split
  · show s.last ≤ s.last + 1; omega
  · have h := send_last s [(s.peek id).1]
    simp only [List.length_cons, List.length_nil] at h
    show (s.send _).1.last ≤ _
    omega
/-! ### a row of messages of the law's own -/
structure OwnM where
  m : MsgS
  ve : Value
  vv : Value
  vd : Value
  lo : Nat
  hi : Nat
def OwnM.val (x : OwnM) : Value := .agg (msgC x.m x.ve x.vv x.vd)
def kMsgW : Kd OwnM where
  sz := 13
  K := fun _ _ x cs => cs = (msgC x.m x.ve x.vv x.vd).toList ∧ (∃ A n c, x.ve = .slice A n c) ∧ (∃ A n c, x.vv = .slice A n c) ∧ ∃ A n c, x.vd = .slice A n c
  len := by rintro w S x cs ⟨rfl, _⟩; rfl
  one := by
    rintro w S x cs ⟨rfl, ⟨A1, n1, c1, e1⟩, ⟨A2, n2, c2, e2⟩, A3, n3, c3, e3⟩ u hu
    rw [e1, e2, e3] at hu
    simp only [msgC, List.mem_cons, List.not_mem_nil, or_false] at hu
    rcases hu with rfl | rfl | rfl | rfl | rfl | rfl | rfl | rfl | rfl | rfl | rfl | rfl | rfl <;> rfl
  mono := by rintro w S S' x cs h hk; exact hk
  move := by rintro w w' S x cs h hk; exact hk
  bound := by rintro w S x cs hk; exact hk
theorem Rs.one_msgw {W : World} {T : Nat → Prop} {g : Nat} {t : TypeId} (x : OwnM) (hb : W.heap[g]? = some (.cells (msgC x.m x.ve x.vv x.vd) t (0, 0))) (hS : T g) (h1 : ∃ A n c, x.ve = .slice A n c) (h2 : ∃ A n c, x.vv = .slice A n c) (h3 : ∃ A n c, x.vd = .slice A n c) :
    Rs kMsgW W T (.slice (some ⟨g, 0, none⟩) 1 1) [x] :=
  ⟨_, 1, rfl, by simp, by omega, by simp, Row.of_block hb hS fun j y hj => by
    match j, hj with
    | 0, hj =>
      simp at hj; subst hj
      refine ⟨_, ⟨rfl, h1, h2, h3⟩, fun i u hi => ?_⟩
      simp only [Nat.zero_mul, Nat.zero_add]
      simpa using hi⟩
theorem Rs.msgw {W : World} {S T : Nat → Prop} {v : Value} {os : List OwnM} (h : Rs kMsgW W S v os) (hm : ∀ x ∈ os, MsgV W T x.val x.m) (hT : ∀ b, S b → T b) : Rs kMsg W T v (os.map (·.m)) := by
  obtain ⟨A, c, rfl, h1, h2, h3, h4⟩ := h
  refine ⟨A, c, by rw [List.length_map], by rw [List.length_map]; exact h1, h2, by rw [List.length_map]; exact h3, fun hp => ?_⟩
  rw [List.length_map] at hp
  obtain ⟨ad, rfl, h5, h6, h7⟩ := h4 hp
  refine ⟨ad, rfl, hT _ h5, h6, fun j x hj => ?_⟩
  rw [List.getElem?_map] at hj
  obtain ⟨y, hy, rfl⟩ := Option.map_eq_some_iff.1 hj
  obtain ⟨cs, hK, hc⟩ := h7 j y hy
  obtain ⟨rfl, _⟩ := hK
  obtain ⟨ve, vv, vd, e, h1', h2', h3', h4'⟩ := hm y (List.mem_of_getElem? hy)
  have e' := Value.agg.inj (show Value.agg (msgC y.m y.ve y.vv y.vd) = .agg (msgC y.m ve vv vd) from e)
  refine ⟨_, kMsg_iff.2 ⟨ve, vv, vd, by rw [e'], h1', h2', h3', h4'⟩, fun i u hu => hc i u hu⟩
theorem Row.msgw {w : World} {S : Nat → Prop} {A : Option Addr} {os : List OwnM} (h : Row kMsgW w S A os) {j : Nat} (hj : j < os.length) : ∃ ad Ae ne ce Av nv cv Ad nd cd, A = some ad ∧ os[j].val = .agg (msgC os[j].m (.slice Ae ne ce) (.slice Av nv cv) (.slice Ad nd cd)) ∧
    w.cell? (ad.add (j * 13)) = some (.int .i64 os[j].m.kind) ∧ w.cell? ⟨(ad.add (j * 13)).block, (ad.add (j * 13)).off + 1, none⟩ = some (.int .i64 os[j].m.from_) ∧ w.cell? ⟨(ad.add (j * 13)).block, (ad.add (j * 13)).off + 2, none⟩ = some (.int .i64 os[j].m.to_) ∧ w.cell? ⟨(ad.add (j * 13)).block, (ad.add (j * 13)).off + 3, none⟩ = some (.int .i64 os[j].m.term) ∧ w.cell? ⟨(ad.add (j * 13)).block, (ad.add (j * 13)).off + 4, none⟩ = some (.int .i64 os[j].m.index) ∧ w.cell? ⟨(ad.add (j * 13)).block, (ad.add (j * 13)).off + 5, none⟩ = some (.int .i64 os[j].m.logTerm) ∧ w.cell? ⟨(ad.add (j * 13)).block, (ad.add (j * 13)).off + 6, none⟩ = some (.int .i64 os[j].m.commit) ∧ w.cell? ⟨(ad.add (j * 13)).block, (ad.add (j * 13)).off + 7, none⟩ = some (.int .i64 os[j].m.round) ∧ w.cell? ⟨(ad.add (j * 13)).block, (ad.add (j * 13)).off + 8, none⟩ = some (.bool os[j].m.yes) ∧ w.cell? ⟨(ad.add (j * 13)).block, (ad.add (j * 13)).off + 9, none⟩ = some (.bool os[j].m.done) ∧ w.cell? ⟨(ad.add (j * 13)).block, (ad.add (j * 13)).off + 10, none⟩ = some (.slice Ae ne ce) ∧ w.cell? ⟨(ad.add (j * 13)).block, (ad.add (j * 13)).off + 11, none⟩ = some (.slice Av nv cv) ∧ w.cell? ⟨(ad.add (j * 13)).block, (ad.add (j * 13)).off + 12, none⟩ = some (.slice Ad nd cd) := by
  obtain ⟨ad, cs, rfl, _, _, hK, hc⟩ := h.get hj
  obtain ⟨rfl, ⟨Ae, ne, ce, e1⟩, ⟨Av, nv, cv, e2⟩, Ad, nd, cd, e3⟩ := hK
  rw [e1, e2, e3] at hc
  have hg : ∀ i u, (msgC os[j].m (.slice Ae ne ce) (.slice Av nv cv) (.slice Ad nd cd)).toList[i]? = some u → 0 < i → w.cell? ⟨(ad.add (j * 13)).block, (ad.add (j * 13)).off + i, none⟩ = some u := fun i u hu hi => by
    have h := hc i u hu
    rw [← add_of_add] at h
    rw [show (ad.add (j * kMsgW.sz)).add i = ⟨(ad.add (j * 13)).block, (ad.add (j * 13)).off + i, none⟩ from by
      show (ad.add (j * 13)).add i = _
      unfold Addr.add
      rw [if_neg (show ¬ i = 0 by omega)]] at h
    exact h
  refine ⟨ad, Ae, ne, ce, Av, nv, cv, Ad, nd, cd, rfl, by unfold OwnM.val; rw [e1, e2, e3], hc 0 _ rfl, hg 1 _ rfl (by decide), hg 2 _ rfl (by decide), hg 3 _ rfl (by decide), hg 4 _ rfl (by decide), hg 5 _ rfl (by decide), hg 6 _ rfl (by decide), hg 7 _ rfl (by decide), hg 8 _ rfl (by decide), hg 9 _ rfl (by decide), hg 10 _ rfl (by decide), hg 11 _ rfl (by decide), hg 12 _ rfl (by decide)⟩

/-- Each lies in blocks of its own. -/
structure OwnL (W : World) (base : Nat) (os : List OwnM) : Prop where
  each : ∀ x ∈ os, MsgB W x.lo x.hi x.val x.m
  lo : ∀ x ∈ os, base ≤ x.lo ∧ x.lo ≤ x.hi ∧ x.hi ≤ W.heap.size
  apart : os.Pairwise fun x y => x.hi ≤ y.lo
/-- None of their blocks. -/
def Nd (base : Nat) (os : List OwnM) : Nat → Prop := fun b => base ≤ b ∧ ∀ x ∈ os, ¬ (x.lo ≤ b ∧ b < x.hi)
section
variable {W W' : World} {base : Nat} {os : List OwnM}
theorem OwnL.nil (W : World) (base : Nat) : OwnL W base [] := ⟨fun x hx => (by cases hx), fun x hx => (by cases hx), List.Pairwise.nil⟩
theorem OwnL.ext (h : OwnL W base os) (he : Ext W W') : OwnL W' base os :=
  ⟨fun x hx => (h.each x hx).ext he, fun x hx => by have := h.lo x hx; have := he.le; omega, h.apart⟩
theorem OwnL.snoc (h : OwnL W base os) (x : OwnM) (h1 : MsgB W x.lo x.hi x.val x.m) (h2 : base ≤ x.lo ∧ x.lo ≤ x.hi ∧ x.hi ≤ W.heap.size) (h3 : ∀ y ∈ os, y.hi ≤ x.lo) : OwnL W base (os ++ [x]) := by
  refine ⟨fun y hy => ?_, fun y hy => ?_, List.pairwise_append.2 ⟨h.apart, List.pairwise_singleton _ _, fun a ha b hb => by rw [List.mem_singleton.1 hb]; exact h3 a ha⟩⟩
  · rcases List.mem_append.1 hy with hy | hy
    · exact h.each y hy
    · rw [List.mem_singleton.1 hy]; exact h1
  · rcases List.mem_append.1 hy with hy | hy
    · exact h.lo y hy
    · rw [List.mem_singleton.1 hy]; exact h2
theorem OwnL.grown {row : Option Nat} (h : OwnL W base os) (hg : W.grownBy W' row) (hr : ∀ k, row = some k → ∀ x ∈ os, ¬ (x.lo ≤ k ∧ k < x.hi)) : OwnL W' base os :=
  ⟨fun x hx => (h.each x hx).keep fun b h1 h2 hl => hg.block b hl fun e => hr b e.symm x hx ⟨h1, h2⟩, fun x hx => by have := h.lo x hx; have := hg.size; omega, h.apart⟩
theorem OwnL.later (h : OwnL W base os) {k : Nat} (hk : k < os.length) : ∀ x ∈ os.drop (k + 1), os[k].hi ≤ x.lo := fun x hx => by
  obtain ⟨j, hj, rfl⟩ := List.getElem_of_mem hx
  rw [List.length_drop] at hj
  rw [List.getElem_drop]
  exact List.pairwise_iff_getElem.1 h.apart k (k + 1 + j) hk (by omega) (by omega)
theorem Nd.snoc {x : OwnM} {top : Nat} (hx : top ≤ x.lo) : ∀ b, (Nd base os b ∧ b < top) → Nd base (os ++ [x]) b := fun b hb => ⟨hb.1.1, fun y hy => by
  rcases List.mem_append.1 hy with hy | hy
  · exact hb.1.2 y hy
  · rw [List.mem_singleton.1 hy]; have := hb.2; omega⟩
theorem Nd.new (h : OwnL W base os) (hb : base ≤ W.heap.size) : ∀ b, W.heap.size ≤ b → Nd base os b := fun b hb' => ⟨by omega, fun x hx => by have := h.lo x hx; omega⟩
end
end Go.Proofs.Ytfflcnlgkbgbhaa
