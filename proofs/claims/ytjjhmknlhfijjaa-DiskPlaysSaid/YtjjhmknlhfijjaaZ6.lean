/-
  Texts of this claim, put together: DskOps3, DskOps4, DskOps5, DskNo.
-/
import Derived.Test.YtjjhmknlhfijjaaZ5
set_option linter.unusedVariables false
set_option linter.unusedSimpArgs false
namespace Go.Proofs.Ytjjhmknlhfijjaa
open Go.RowKit

set_option maxHeartbeats 2000000 in
theorem Move_calls (w : World) (p : Nat) (M D : Nat → Prop) (s : DkS) (n t : Nam) (h : DkX w p M D s) (hn : n.length ≤ 9223372036854775807) (ht : t.length ≤ 9223372036854775807) (hc : s.acts.length ≤ 1000000) :
    Calls Try.prog 24 #[ptr p, .string ⟨n.toArray⟩, .string ⟨t.toArray⟩] w fun e w' => e = .returned (.int .i64 (moveS s n t).1) ∧ DkP w p M D w' (moveS s n t).2 := by
  obtain ⟨b1, b2, av, h⟩ := h
  have HH := Lib.hid h
  have HN := Lib.hid hn
  have HT := Lib.hid ht
  have HC := Lib.hid hc
  have hlt := blk_lt h.blk
  have hmf := makeF Try.prog
  clear h hn hc ht
  unfold ptr
  obtain ⟨w1, hw1⟩ : ∃ w1, w1 = (w.alloc (strO n)).alloc (strO t) := ⟨_, rfl⟩
  have HX1 := Lib.hid (show Ext w w1 by rw [hw1]; exact ((Ext.refl w).alloc _).alloc _)
  have HB1 := Lib.hid (show w1.heap[w.heap.size]? = some (strO n) by rw [hw1]; exact blk_ext (heap_alloc_new _ _) ((Ext.refl _).alloc _))
  have HB2 := Lib.hid (show w1.heap[w.heap.size + 1]? = some (strO t) by rw [hw1]; exact heap_new (w.alloc (strO n)) _ (by simp) _)
  have HY1 := Lib.hid (HH.out.ext HX1.out)
  have HFI := Lib.hid ((find_calls w1 p b1 b2 M D s av HY1.out n HN.out))
  unfold strO at hw1
  obtain ⟨c, hcc⟩ : ∃ c, c = w.heap.size := ⟨_, rfl⟩
  by_cases hf : findF s n = 0
  · have HF := Lib.hid hf
    go_enter Try.func24, Try.ntmps24
    go_upto_region 1 with fail
    rw [← hw1]
    rw [← hcc] at HB1 HB2 ⊢
    have HCC := Lib.hid hcc
    have hc0 : w1.cell? ⟨c, 0, none⟩ = some (.string ⟨n.toArray⟩) := cell_blk HB1.out 0
    clear hw1 hf hcc
    go_wp2_with fail
    refine HFI.out.mono ?_
    rw [HF.out]
    rintro e w2 ⟨rfl, hx2⟩
    have HX2 := Lib.hid (HX1.out.trans hx2)
    have HB3 := Lib.hid (blk_ext HB1.out hx2)
    have HB4 := Lib.hid (blk_ext HB2.out hx2)
    have hc1 : w2.cell? ⟨c + 1, 0, none⟩ = some (.string ⟨t.toArray⟩) := cell_blk HB4.out 0
    clear hx2 hc0
    by_cases hm : mayF t = true
    · have HM := Lib.hid hm
      have HU := Lib.hid (show moveS s n t = pushS s ⟨.mv n t, []⟩ by unfold moveS moveF; rw [if_pos HF.out, if_pos hm, if_pos rfl])
      have HMF := Lib.hid (show moveF s n t = 0 by unfold moveF; rw [if_pos HF.out, if_pos hm])
      clear hm
      go_wp2_with fail
      refine (may_calls _ _ t (heap_alloc_new _ _) HT.out).mono ?_
      rw [HM.out]
      rintro e w3 ⟨rfl, hx3⟩
      have hx23 : Ext w2 w3 := ((Ext.refl w2).alloc _).trans hx3
      have HX3 := Lib.hid (HX2.out.trans hx23)
      have HB5 := Lib.hid (blk_ext HB3.out hx23)
      have HB6 := Lib.hid (blk_ext HB4.out hx23)
      clear hx3 hx23 hc1
      go_wp2_with fail
      refine (do_in (x := ⟨.mv n t, []⟩) HH.out HX3.out ⟨c, c + 1, rfl, ⟨⟨by have := HCC.out; omega, blk_lt HB5.out⟩, ⟨by have := HCC.out; omega, blk_lt HB6.out⟩⟩, HB5.out, HB6.out⟩ (Rs.nil _ _ _) (move_fits HH.out.ok HMF.out).1 (none_room HH.out.ok) HC.out).mono ?_
      rintro e w4 ⟨rfl, hp⟩
      have HP := Lib.hid hp
      clear hp
      go_wp2_with fail
      go_ret
      rw [HU.out]
      exact ⟨rfl, HP.out⟩
    · have HM := Lib.hid (show mayF t = false by simpa using hm)
      have HU := Lib.hid (show moveS s n t = (20, s) by unfold moveS moveF; rw [if_pos HF.out, if_neg hm, if_neg (by decide)])
      clear hm
      go_wp2_with fail
      refine (may_calls _ _ t (heap_alloc_new _ _) HT.out).mono ?_
      rw [HM.out]
      rintro e w3 ⟨rfl, hx3⟩
      have HX3 := Lib.hid (HX2.out.trans (((Ext.refl w2).alloc _).trans hx3))
      clear hx3 hc1
      go_wp2_with fail
      go_ret
      rw [HU.out]
      exact ⟨rfl, ext_p HH.out.x HX3.out⟩
  · have HU := Lib.hid (show moveS s n t = (findF s n, s) by unfold moveS moveF; rw [if_neg hf, if_neg hf])
    obtain ⟨r, hr⟩ : ∃ r, r = findF s n := ⟨_, rfl⟩
    rw [← hr] at hf
    have hf2 : (r != 0) = true := bne_iff_ne.2 hf
    have HR := Lib.hid hr
    clear hr hf
    go_enter Try.func24, Try.ntmps24
    go_upto_region 1 with fail
    rw [← hw1]
    rw [← hcc] at HB1 ⊢
    have hc0 : w1.cell? ⟨c, 0, none⟩ = some (.string ⟨n.toArray⟩) := cell_blk HB1.out 0
    clear hw1 hcc
    go_wp2_with fail
    refine HFI.out.mono ?_
    rw [← HR.out]
    rintro e w2 ⟨rfl, hx2⟩
    have HX2 := Lib.hid (HX1.out.trans hx2)
    clear hx2 hc0
    go_wp2_with fail
    go_ret
    rw [HU.out, HR.out]
    exact ⟨rfl, ext_p HH.out.x HX2.out⟩

set_option maxHeartbeats 4000000 in
theorem Trim_calls (w : World) (p : Nat) (M D : Nat → Prop) (s : DkS) (n : Nam) (a : Int) (h : DkX w p M D s) (hn : n.length ≤ 9223372036854775807) (ha : I64 a) (hc : s.acts.length ≤ 1000000) :
    Calls Try.prog 58 #[ptr p, .string ⟨n.toArray⟩, .int .i64 a] w fun e w' => e = .returned (.int .i64 (trimS s n a).1) ∧ DkP w p M D w' (trimS s n a).2 := by
  obtain ⟨b1, b2, av, h⟩ := h
  have HH := Lib.hid h
  have HN := Lib.hid hn
  have HC := Lib.hid hc
  have hlt := blk_lt h.blk
  have hmf := makeF Try.prog
  clear h hn hc
  unfold ptr
  obtain ⟨w1, hw1⟩ : ∃ w1, w1 = (w.alloc (strO n)).alloc (intO a) := ⟨_, rfl⟩
  have HX1 := Lib.hid (show Ext w w1 by rw [hw1]; exact ((Ext.refl w).alloc _).alloc _)
  have HB1 := Lib.hid (show w1.heap[w.heap.size]? = some (strO n) by rw [hw1]; exact blk_ext (heap_alloc_new _ _) ((Ext.refl _).alloc _))
  have HB2 := Lib.hid (show w1.heap[w.heap.size + 1]? = some (intO a) by rw [hw1]; exact heap_new (w.alloc (strO n)) _ (by simp) _)
  have HY1 := Lib.hid (HH.out.ext HX1.out)
  have HFI := Lib.hid ((find_calls w1 p b1 b2 M D s av HY1.out n HN.out))
  unfold strO intO at hw1
  obtain ⟨c, hcc⟩ : ∃ c, c = w.heap.size := ⟨_, rfl⟩
  by_cases hf : findF s n = 0
  · have HF := Lib.hid hf
    go_enter Try.func58, Try.ntmps58
    go_upto_region 1 with fail
    rw [← hw1]
    rw [← hcc] at HB1 HB2 ⊢
    have HCC := Lib.hid hcc
    have hc0 : w1.cell? ⟨c, 0, none⟩ = some (.string ⟨n.toArray⟩) := cell_blk HB1.out 0
    clear hw1 hf hcc
    go_wp2_with fail
    refine HFI.out.mono ?_
    rw [HF.out]
    rintro e w2 ⟨rfl, hx2⟩
    have HX2 := Lib.hid (HX1.out.trans hx2)
    have HY2 := Lib.hid (HH.out.ext HX2.out)
    have HB3 := Lib.hid (blk_ext HB1.out hx2)
    have HB4 := Lib.hid (blk_ext HB2.out hx2)
    obtain ⟨A, m, cp, hlk, hrs, -⟩ := HY2.out.sees.at_ HN.out
    have hml := hrs.shape.1
    have HML := Lib.hid (show s.len n = m from hml.symm)
    have hmb : m ≤ 1073741824 := by
      have h1 := HH.out.ok.len_le n
      have h2 := HH.out.ok.most
      rw [show s.len n = m from hml.symm] at h1
      omega
    have hlq : ∀ j, (Instr.lookup 53 (.map (some b1)) (.string ⟨n.toArray⟩) false).run Try.prog (w2.drewN j) = .ok (.slice A m cp) (w2.drewN j) := fun j => hlk _ rfl
    have hc1 : w2.cell? ⟨c + 1, 0, none⟩ = some (.int .i64 a) := cell_blk HB4.out 0
    have hc2 : w2.cell? ⟨c, 0, none⟩ = some (.string ⟨n.toArray⟩) := cell_blk HB3.out 0
    have hc5 : w2.cell? ⟨p, 5, none⟩ = some (.map (some b1)) := cell_blk HY2.out.blk 5
    have hlt2 : p < w2.heap.size := blk_lt HY2.out.blk
    clear hx2 hc0 hrs hlk hml
    go_upto_region 4 with fail
    by_cases h0 : a < 0
    · have hd : decide (a < 0) = true := decide_eq_true h0
      have HU := Lib.hid (show trimS s n a = (1, s) by have e : trimF s n a = 1 := by { unfold trimF; rw [if_pos HF.out, if_pos (.inl h0)] }; unfold trimS; rw [e, if_neg (by decide)])
      go_quiet (fail)
      obtain ⟨w3, hw3⟩ : ∃ w3, w3 = w2.drewN nq := ⟨_, rfl⟩
      have HX3 := Lib.hid (show Ext w w3 by rw [hw3]; exact HX2.out.drewN _)
      rw [← hw3]
      clear hw3
      go_wp2_with fail
      go_ret
      rw [HU.out]
      exact ⟨rfl, ext_p HH.out.x HX3.out⟩
    · have hd : decide (a < 0) = false := decide_eq_false h0
      by_cases h1 : (m : Int) < a
      · have HU := Lib.hid (show trimS s n a = (1, s) by have e : trimF s n a = 1 := by { unfold trimF; rw [if_pos HF.out, if_pos (.inr (by rw [HML.out]; exact h1))] }; unfold trimS; rw [e, if_neg (by decide)])
        go_quiet (fail)
        obtain ⟨w3, hw3⟩ : ∃ w3, w3 = w2.drewN nq := ⟨_, rfl⟩
        have HX3 := Lib.hid (show Ext w w3 by rw [hw3]; exact HX2.out.drewN _)
        rw [← hw3]
        clear hw3
        go_wp2_with fail
        go_ret
        rw [HU.out]
        exact ⟨rfl, ext_p HH.out.x HX3.out⟩
      · have HTF := Lib.hid (show trimF s n a = 0 by unfold trimF; rw [if_pos HF.out, if_neg (by rw [HML.out]; omega)])
        have HU := Lib.hid (show trimS s n a = pushS s ⟨.tr n a.toNat, []⟩ by unfold trimS; rw [if_pos HTF.out])
        have HA := Lib.hid (show (a.toNat : Int) = a by omega)
        go_quiet (fail)
        obtain ⟨w3, hw3⟩ : ∃ w3, w3 = w2.drewN nq := ⟨_, rfl⟩
        have HX3 := Lib.hid (show Ext w w3 by rw [hw3]; exact HX2.out.drewN _)
        have HB5 := Lib.hid (show w3.heap[c]? = some (strO n) by rw [hw3]; exact HB3.out)
        have HB6 := Lib.hid (show w3.heap[c + 1]? = some (intO (a.toNat : Int)) by rw [hw3, HA.out]; exact HB4.out)
        rw [← hw3]
        clear hw3 hlq h0 hd h1
        go_wp2_with fail
        refine (do_in (x := ⟨.tr n a.toNat, []⟩) HH.out HX3.out ⟨c, c + 1, rfl, ⟨⟨by have := HCC.out; omega, blk_lt HB5.out⟩, ⟨by have := HCC.out; omega, blk_lt HB6.out⟩⟩, HB5.out, HB6.out⟩ (Rs.nil _ _ _) (trim_fits HH.out.ok HTF.out).1 (none_room HH.out.ok) HC.out).mono ?_
        rintro e w4 ⟨rfl, hp⟩
        have HP := Lib.hid hp
        clear hp
        go_wp2_with fail
        go_ret
        rw [HU.out]
        exact ⟨rfl, HP.out⟩
  · have HU := Lib.hid (show trimS s n a = (findF s n, s) by unfold trimS trimF; rw [if_neg hf, if_neg hf])
    obtain ⟨r, hr⟩ : ∃ r, r = findF s n := ⟨_, rfl⟩
    rw [← hr] at hf
    have hf2 : (r != 0) = true := bne_iff_ne.2 hf
    have HR := Lib.hid hr
    clear hr hf
    go_enter Try.func58, Try.ntmps58
    go_upto_region 1 with fail
    rw [← hw1]
    rw [← hcc] at HB1 ⊢
    have hc0 : w1.cell? ⟨c, 0, none⟩ = some (.string ⟨n.toArray⟩) := cell_blk HB1.out 0
    clear hw1 hcc
    go_wp2_with fail
    refine HFI.out.mono ?_
    rw [← HR.out]
    rintro e w2 ⟨rfl, hx2⟩
    have HX2 := Lib.hid (HX1.out.trans hx2)
    clear hx2 hc0
    go_wp2_with fail
    go_ret
    rw [HU.out, HR.out]
    exact ⟨rfl, ext_p HH.out.x HX2.out⟩
end Go.Proofs.Ytjjhmknlhfijjaa
set_option linter.unusedVariables false
set_option linter.unusedSimpArgs false
namespace Go.Proofs.Ytjjhmknlhfijjaa
open Go.RowKit

def newS (room : Int) : DkS := ⟨false, 0, 0, 0, room, [], []⟩
theorem new_ok {room : Int} (h : 0 ≤ room) (h2 : room ≤ 1073741824) : DkOk (newS room) where
  fits := trivial
  room := by show ((0 + 0 : Nat) : Int) ≤ room; simpa using h
  most := h2
  rise := List.Pairwise.nil
  files := by simp [newS]
  names := by intro q hq; cases hq
  left := ⟨Int.le_refl _, by show (0 : Int) ≤ _; omega⟩
  keep := by constructor <;> (show _ ≤ _; simp [newS])
  tear := by constructor <;> (show _ ≤ _; simp [newS])
set_option maxHeartbeats 1000000 in
theorem Arm_calls (w : World) (p : Nat) (M D : Nat → Prop) (s : DkS) (n keep tear : Int) (h : DkX w p M D s) (hn : I64 n) (hk : I64 keep) (ht : I64 tear) :
    Calls Try.prog 16 #[ptr p, .int .i64 n, .int .i64 keep, .int .i64 tear] w fun e w' => e = .returned (.int .i64 (armS s n keep tear).1) ∧ DkP w p M D w' (armS s n keep tear).2 := by
  obtain ⟨b1, b2, av, h⟩ := h
  have HH := Lib.hid h
  have hb := h.blk
  have hlt := blk_lt hb
  have hc1 : w.cell? ⟨p, 1, none⟩ = some (.int .i64 s.left) := cell_blk hb 1
  have hc2 : w.cell? ⟨p, 2, none⟩ = some (.int .i64 s.keep) := cell_blk hb 2
  have hc3 : w.cell? ⟨p, 3, none⟩ = some (.int .i64 s.tear) := cell_blk hb 3
  have hz : ∀ i, w.frozen? ⟨p, i, none⟩ = false := fun i => frozen_blk hb i
  clear hb h
  unfold ptr
  rcases ho : s.off with _ | _
  · have HR := Lib.hid (rdy_on ho)
    have HU := Lib.hid (show armS s n keep tear = (0, { s with left := max n 0, keep := keep, tear := tear }) by unfold armS; rw [ho]; rfl)
    have HW := Lib.hid (show DkP w p M D (((w.setCell ⟨p, 1, none⟩ (.int .i64 (max n 0))).setCell ⟨p, 2, none⟩ (.int .i64 keep)).setCell ⟨p, 3, none⟩ (.int .i64 tear)) { s with left := max n 0, keep := keep, tear := tear } from by
      have hu : Upd (fun k => k = p) w (((w.setCell ⟨p, 1, none⟩ (.int .i64 (max n 0))).setCell ⟨p, 2, none⟩ (.int .i64 keep)).setCell ⟨p, 3, none⟩ (.int .i64 tear)) := ((((Upd.refl (fun k => k = p) w).set (g := p) (.inl rfl) _).set (g := p) (.inl rfl) _).set (g := p) (.inl rfl) _)
      have hok := arm_ok HH.out.ok hn hk ht
      rw [HU.out] at hok
      exact ⟨M, D, (HH.out.turn hu (s' := { s with left := max n 0, keep := keep, tear := tear }) rfl rfl (heap_setCell_same _ p 3 _ _ _ (heap_setCell_same _ p 2 _ _ _ (heap_setCell_same w p 1 _ _ _ HH.out.blk))) hok).x, hu.mono (by rintro k rfl; exact HH.out.inM k (.inl rfl)), fun _ h => .inl h, fun _ h => .inl h⟩)
    clear ho hn hk ht
    go_enter Try.func16, Try.ntmps16
    go_wp2_with fail
    refine (ready_calls w p b1 b2 M D s _ HH.out).mono ?_
    rw [HR.out]
    rintro e w' ⟨rfl, rfl⟩
    go_wp2_with fail
    go_ret
    rw [HU.out]
    exact ⟨rfl, HW.out⟩
  · have HR := Lib.hid (rdy_off ho)
    have HU := Lib.hid (show armS s n keep tear = (22, s) by unfold armS; rw [ho]; rfl)
    clear ho hn hk ht
    go_enter Try.func16, Try.ntmps16
    go_wp2_with fail
    refine (ready_calls w p b1 b2 M D s _ HH.out).mono ?_
    rw [HR.out]
    rintro e w' ⟨rfl, rfl⟩
    go_wp2_with fail
    go_ret
    rw [HU.out]
    exact ⟨rfl, HH.out.x.p⟩
/-- What stands behind a sync. -/
theorem sync_end {w w1 w2 : World} {p b1 b2 o : Nat} {M D : Nat → Prop} {s : DkS} {av : Value} (h : DkY w1 p M D s b1 b2 av) (hT : DkT w w1 M D M D) (ho : o = w1.heap.size) (ht : TabF w2 o (Fresh o o) s.seen) (hx : Ext w1 w2) :
    DkP w p M D ((w2.setCell ⟨p, 6, none⟩ (.map (some o))).setCell ⟨p, 7, none⟩ (.slice none 0 0)) { s with last := s.seen, acts := [] } := by
  have b0 := blk_ext h.blk hx
  have b1' := heap_setCell_same w2 p 6 _ _ (.map (some o)) b0
  have b2' := heap_setCell_same _ p 7 _ _ (.slice none 0 0) b1'
  have hu : Upd (fun k => k = p) w2 ((w2.setCell ⟨p, 6, none⟩ (.map (some o))).setCell ⟨p, 7, none⟩ (.slice none 0 0)) := (((Upd.refl (fun k => k = p) w2).set (g := p) (.inl rfl) _).set (g := p) (.inl rfl) _)
  generalize ((w2.setCell ⟨p, 6, none⟩ (.map (some o))).setCell ⟨p, 7, none⟩ (.slice none 0 0)) = W at *
  clear b1'
  have hpM : M p := h.inM p (.inl rfl)
  have hbM : M b1 := h.inM b1 (.inr (.inl rfl))
  have hp := h.ltM p hpM
  have hb := h.ltM b1 hbM
  have hle2 := hx.le
  have hle3 := hu.le
  have hol := ht.lt
  have hseen : ({ s with last := s.seen, acts := [] } : DkS).seen = s.seen := rfl
  refine ⟨fun k => M k ∨ k = o, fun k => D k ∨ (w1.heap.size ≤ k ∧ k ≠ o ∧ k < w2.heap.size), ⟨b1, o, .slice none 0 0, ?_⟩, hT.trans ⟨?_, ?_, ?_⟩⟩
  · constructor
    case blk => exact b2'
    case sees =>
      rw [hseen]
      exact ((h.sees.ext hx).upd hu (fun e => h.ne.1 e.symm) (fun k hk e => h.apart k hk (e ▸ hpM))).mono fun _ h => .inl h
    case lasts =>
      refine (ht.bound.upd hu (by omega) (fun k hk => ?_)).mono fun k hk => ?_
      · have := hk.1.1; omega
      · have := hk.1.1; have := hk.1.2; exact .inr ⟨by omega, hk.1.2, hk.2⟩
    case acts => exact ActR.nil _ _
    case inM =>
      rintro k (rfl | rfl | rfl | hk)
      · exact .inl hpM
      · exact .inl hbM
      · exact .inr rfl
      · cases hk
    case apart =>
      rintro k (h1 | h1) (h4 | h4)
      · exact h.apart k h1 h4
      · have := h.ltD k h1; omega
      · have := h.ltM k h4; omega
      · exact h1.2.1 h4
    case ne => exact ⟨h.ne.1, by omega, by omega, by simp [Value.ownBlock], by simp [Value.ownBlock], by simp [Value.ownBlock]⟩
    case ltM =>
      rintro k (hk | rfl)
      · have := h.ltM k hk; omega
      · omega
    case ltD =>
      rintro k (hk | hk)
      · have := h.ltD k hk; omega
      · omega
    case ok => exact last_ok h.ok
  · refine (hx.upd M).trans (hu.mono ?_)
    rintro k rfl; exact hpM
  · rintro k (hk | rfl)
    · exact .inl hk
    · exact .inr (by omega)
  · rintro k (hk | hk)
    · exact .inl hk
    · exact .inr hk.1
set_option maxRecDepth 100000 in
set_option maxHeartbeats 4000000 in
theorem Sync_calls (w : World) (p : Nat) (M D : Nat → Prop) (s : DkS) (h : DkX w p M D s) :
    Calls Try.prog 17 #[ptr p] w fun e w' => e = .returned (.int .i64 (syncS s).1) ∧ DkP w p M D w' (syncS s).2 := by
  obtain ⟨b1, b2, av, h⟩ := h
  have HH := Lib.hid h
  have hlt := blk_lt h.blk
  clear h
  unfold ptr
  rcases ho : s.off with _ | _
  · have HR := Lib.hid (rdy_on ho)
    have HO := Lib.hid ho
    clear ho
    go_enter Try.func17, Try.ntmps17
    go_wp2_with fail
    refine (ready_calls w p b1 b2 M D s _ HH.out).mono ?_
    rw [HR.out]
    rintro e w' ⟨rfl, rfl⟩
    go_wp2_with fail
    refine (struck_calls w p b1 b2 M D s _ HH.out).mono ?_
    rintro e w4 ⟨rfl, hy4, hu4⟩
    have HY4 := Lib.hid hy4
    have HT4 := Lib.hid (show DkT w w4 M D M D from ⟨hu4.mono (by rintro k rfl; exact HH.out.inM k (.inl rfl)), fun _ h => .inl h, fun _ h => .inl h⟩)
    have hlt4 : p < w4.heap.size := blk_lt hy4.blk
    by_cases hhit : hitB s = true
    · have HE := Lib.hid (show syncS s = (22, fallS s s.keep s.tear) by unfold syncS; rw [HO.out, if_pos hhit]; rfl)
      have hc2 : w4.cell? ⟨p, 2, none⟩ = some (.int .i64 s.keep) := by
        have := cell_blk hy4.blk 2
        rw [this]
        unfold dkC hitS
        split <;> rfl
      have hc3 : w4.cell? ⟨p, 3, none⟩ = some (.int .i64 s.tear) := by
        have := cell_blk hy4.blk 3
        rw [this]
        unfold dkC hitS
        split <;> rfl
      rw [hhit]
      clear hy4 hu4 hhit
      go_wp2_with fail
      have hx4 := (Ext.refl w4).drew
      go_still_tail 11, (by kernel_rfl)
      change wpList _ _ _ _ _ w4.drew
      have HY5 := Lib.hid (HY4.out.ext hx4)
      have HT5 := Lib.hid (HT4.out.trans (hx4.dkT _ _))
      clear hx4 hc2 hc3
      generalize w4.drew = w5 at *
      go_wp2_with fail
      refine (fall_calls w5 p b1 b2 _ _ _ _ _ _ HY5.out HH.out.ok.keep HH.out.ok.tear).mono ?_
      rintro e w6 ⟨rfl, hp⟩
      have HP := Lib.hid (DkP.trans HT5.out hp)
      clear hp
      go_wp2_with fail
      go_ret
      rw [HE.out]
      rw [fall_hit] at HP
      exact ⟨rfl, HP.out⟩
    · have HE := Lib.hid (show syncS s = (0, { hitS s with last := s.seen, acts := [] }) by unfold syncS; rw [HO.out, if_neg hhit]; rfl)
      have hhit' : hitB s = false := by simpa using hhit
      rw [hhit']
      have hc5 : w4.cell? ⟨p, 5, none⟩ = some (.map (some b1)) := cell_blk hy4.blk 5
      clear hy4 hu4 hhit hhit'
      go_wp2_with fail
      refine (copied_calls w4 b1 _ _ HY4.out.sees (by have := HY4.out.ok.seen_len; omega)).mono ?_
      rintro e w2 ⟨rfl, ht2, hx2⟩
      obtain ⟨o, ho⟩ : ∃ o, o = w4.heap.size := ⟨_, rfl⟩
      rw [← ho] at ht2 ⊢
      have HP := Lib.hid (sync_end HY4.out HT4.out ho ht2 hx2)
      rw [hit_seen] at HP
      have hb2 := blk_ext HY4.out.blk hx2
      have hc6 : w2.cell? ⟨p, 6, none⟩ = some (.map (some b2)) := cell_blk hb2 6
      have hc7 : w2.cell? ⟨p, 7, none⟩ = some av := cell_blk hb2 7
      have hz : ∀ i, w2.frozen? ⟨p, i, none⟩ = false := fun i => frozen_blk hb2 i
      clear hb2 hx2 ht2 ho hc5
      go_wp2_with fail
      go_ret
      rw [HE.out]
      exact ⟨rfl, HP.out⟩
  · have HR := Lib.hid (rdy_off ho)
    have HU := Lib.hid (show syncS s = (22, s) by unfold syncS; rw [ho]; rfl)
    clear ho
    go_enter Try.func17, Try.ntmps17
    go_wp2_with fail
    refine (ready_calls w p b1 b2 M D s _ HH.out).mono ?_
    rw [HR.out]
    rintro e w' ⟨rfl, rfl⟩
    go_wp2_with fail
    go_ret
    rw [HU.out]
    exact ⟨rfl, HH.out.x.p⟩
/-- A new disk. -/
def NewD (w : World) (room : Int) (e : Ending) (w' : World) : Prop :=
  ∃ p M D, e = .returned (.tuple #[ptr p, .int .i64 0]) ∧ DkX w' p M D (newS room) ∧ Ext w w' ∧ (∀ k, M k → w.heap.size ≤ k) ∧ ∀ k, D k → w.heap.size ≤ k
set_option maxHeartbeats 1000000 in
theorem New_calls (w : World) (room : Int) (h0 : 0 ≤ room) (h1 : room ≤ 16777216) : Calls Try.prog 31 #[.int .i64 room] w (NewD w room) := by
  have hmm := @run_makeMap Try.prog
  have HW := Lib.hid (show DkX (((w.alloc (.map #[] 0)).alloc (.map #[] 0)).alloc (.cells #[.bool false, .int .i64 0, .int .i64 0, .int .i64 0, .int .i64 room, .map (some w.heap.size), .map (some (w.heap.size + 1)), .slice none 0 0] 56)) (w.heap.size + 2) (fun k => k = w.heap.size ∨ k = w.heap.size + 1 ∨ k = w.heap.size + 2) (fun _ => False) (newS room) from by
    have t1 := TabF.made w (fun _ => False)
    have t2 := TabF.made (w.alloc (.map #[] 0)) (fun _ => False)
    rw [World.size_alloc] at t2
    refine ⟨w.heap.size, w.heap.size + 1, .slice none 0 0, ?_⟩
    constructor
    case blk => exact heap_new _ _ (by simp) _
    case sees => exact (t1.ext ((Ext.refl _).alloc _)).ext ((Ext.refl _).alloc _)
    case lasts => exact t2.ext ((Ext.refl _).alloc _)
    case acts => exact ActR.nil _ _
    case inM =>
      rintro k (rfl | rfl | rfl | hk)
      · exact .inr (.inr rfl)
      · exact .inl rfl
      · exact .inr (.inl rfl)
      · cases hk
    case apart => exact fun k hk => hk.elim
    case ne => exact ⟨by omega, by omega, by omega, by simp [Value.ownBlock], by simp [Value.ownBlock], by simp [Value.ownBlock]⟩
    case ltM =>
      rintro k (rfl | rfl | rfl) <;> (simp only [World.size_alloc]; omega)
    case ltD => exact fun k hk => hk.elim
    case ok => exact new_ok h0 (by omega))
  go_enter Try.func31, Try.ntmps31
  go_wp2_with fail
  go_ret2
  exact ⟨_, _, _, rfl, HW.out, (((Ext.refl w).alloc _).alloc _).alloc _, by rintro k (rfl | rfl | rfl) <;> omega, fun k hk => hk.elim⟩
set_option maxHeartbeats 1000000 in
theorem New_none (w : World) (room : Int) (h : room < 0 ∨ 16777216 < room) : Calls Try.prog 31 #[.int .i64 room] w fun e w' => e = .returned (.tuple #[.pointer none, .int .i64 1]) ∧ w = w' := by
  rcases h with h | h
  · go_enter Try.func31, Try.ntmps31
    go_wp2_with fail
    go_ret2
    exact ⟨rfl, rfl⟩
  · have h' : ¬ room < 0 := by omega
    go_enter Try.func31, Try.ntmps31
    go_wp2_with fail
    go_ret2
    exact ⟨rfl, rfl⟩
end Go.Proofs.Ytjjhmknlhfijjaa
set_option linter.unusedVariables false
set_option linter.unusedSimpArgs false
namespace Go.Proofs.Ytjjhmknlhfijjaa
open Go.RowKit

/-- What is read: bytes of the call's own. -/
def ReadP (w : World) (s : DkS) (n : Nam) (e : Ending) (w' : World) : Prop := ∃ v, e = .returned (.tuple #[v, .int .i64 (findF s n)]) ∧ Ow kByte 5 w' w.heap.size (w.heap.size ≤ ·) v (readF s n) ∧ Ext w w'
theorem readF_none {s : DkS} {n : Nam} (h : findF s n ≠ 0) : readF s n = [] := by unfold readF; rw [if_neg h]
set_option maxHeartbeats 2000000 in
theorem Read_calls (w : World) (p : Nat) (M D : Nat → Prop) (s : DkS) (n : Nam) (h : DkX w p M D s) (hn : n.length ≤ 9223372036854775807) :
    Calls Try.prog 18 #[ptr p, .string ⟨n.toArray⟩] w (ReadP w s n) := by
  obtain ⟨b1, b2, av, h⟩ := h
  have HH := Lib.hid h
  have HN := Lib.hid hn
  have hlt := blk_lt h.blk
  have HFI := Lib.hid ((find_calls w p b1 b2 M D s av h n hn))
  clear h hn
  unfold ptr at HFI ⊢
  by_cases hf : findF s n = 0
  · have HF := Lib.hid hf
    go_enter Try.func18, Try.ntmps18
    go_wp2_with fail
    refine HFI.out.mono ?_
    rw [hf]
    rintro e w2 ⟨rfl, hx2⟩
    clear hf
    have HX2 := Lib.hid hx2
    have HY2 := Lib.hid (HH.out.ext hx2)
    obtain ⟨h1, h2, h3⟩ := find_iff.1 HF.out
    rcases HY2.out.sees.look HN.out with ⟨h4, _⟩ | ⟨x, bs, h4, hlk, hr⟩
    · rw [h4] at h3; cases h3
    have HB := Lib.hid (show readF s n = bs by unfold readF bytesK; rw [if_pos HF.out, h4]; rfl)
    have HR := Lib.hid hr
    have hsz : bs.length ≤ 140737488355328 := by obtain ⟨_, _, _, _, _, h, _⟩ := hr; exact h
    have HSZ := Lib.hid hsz
    have hc5 : w2.cell? ⟨p, 5, none⟩ = some (.map (some b1)) := cell_blk HY2.out.blk 5
    have hlt2 : p < w2.heap.size := blk_lt HY2.out.blk
    clear h1 h2 h3 h4 hx2 hr hsz
    go_wp2_with fail
    refine (CloneN_calls w2 D x bs HR.out HSZ.out).mono ?_
    rintro e w3 ⟨u, rfl, ho, hx3⟩
    have HO := Lib.hid ho
    have HX3 := Lib.hid (HX2.out.trans hx3)
    clear ho hx3
    unfold hdV at HO ⊢
    go_wp2_with fail
    go_ret2
    exact ⟨_, by rw [HF.out]; rfl, by rw [HB.out]; exact (HO.out.lower HX2.out.le).mono fun k hk => Nat.le_trans HX2.out.le hk, HX3.out⟩
  · obtain ⟨r, hr⟩ : ∃ r, r = findF s n := ⟨_, rfl⟩
    have HR := Lib.hid hr
    have HE := Lib.hid (readF_none hf)
    rw [← hr] at hf
    have hf2 : (r != 0) = true := bne_iff_ne.2 hf
    clear hr hf
    go_enter Try.func18, Try.ntmps18
    go_wp2_with fail
    refine HFI.out.mono ?_
    rw [← HR.out]
    rintro e w2 ⟨rfl, hx2⟩
    have HX2 := Lib.hid hx2
    clear hx2
    go_wp2_with fail
    go_ret2
    exact ⟨_, by rw [← HR.out]; rfl, by rw [HE.out]; exact Ow.nil _ _ _ _ _, HX2.out⟩
/-- Behind the bytes' row: the write is done. -/
theorem write_tail {w w2 : World} {p b1 b2 c : Nat} {M D : Nat → Prop} {s : DkS} {av : Value} {n : Nam} {a : Int} {bs : Nam} (h : DkY w p M D s b1 b2 av) (hx : Ext w w2) (hcc : c = w.heap.size) (h1 : w2.heap[c]? = some (strO n)) (h2 : w2.heap[c + 1]? = some (intO a)) (h0 : 0 ≤ a)
    {v : Value} {base : Nat} (hb : w.heap.size ≤ base) (hv : Ow kByte 5 w2 base (base ≤ ·) v bs) (hw : writeF s n a bs = 0) (hc : s.acts.length ≤ 1000000) :
    Calls Try.prog 50 #[ptr p, v, .func (.func 51) #[] #[ptr c, ptr (c + 1)]] w2 fun e w' => e = .returned (.int .i64 (writeS s n a bs).1) ∧ DkP w p M D w' (writeS s n a bs).2 := by
  have hf := write_fits h.ok hw
  have e : writeS s n a bs = pushS s ⟨.wr n a.toNat, bs⟩ := by unfold writeS; rw [if_pos hw]
  rw [e]
  exact do_in (x := ⟨.wr n a.toNat, bs⟩) h hx ⟨c, c + 1, rfl, ⟨⟨by omega, blk_lt h1⟩, ⟨by omega, blk_lt h2⟩⟩, h1, by rw [show ((a.toNat : Nat) : Int) = a by omega]; exact h2⟩ (hv.rs.bound.mono fun k hk => ⟨Nat.le_trans hb hk.1, hk.2⟩) hf.1 hf.2.1 hc
set_option maxRecDepth 100000 in
set_option maxHeartbeats 4000000 in
theorem Write_calls (w : World) (p : Nat) (M D : Nat → Prop) (s : DkS) (n : Nam) (a : Int) (S : Nat → Prop) (bv : Value) (bs : Nam) (h : DkX w p M D s) (hn : n.length ≤ 9223372036854775807) (ha : I64 a) (hb : Rs kByte w S bv bs) (hc : s.acts.length ≤ 1000000) :
    Calls Try.prog 19 #[ptr p, .string ⟨n.toArray⟩, .int .i64 a, bv] w fun e w' => e = .returned (.int .i64 (writeS s n a bs).1) ∧ DkP w p M D w' (writeS s n a bs).2 := by
  obtain ⟨b1, b2, av, h⟩ := h
  have HH := Lib.hid h
  have HN := Lib.hid hn
  have HC := Lib.hid hc
  have HBS := Lib.hid hb
  obtain ⟨Ab, cb, rfl, -, -, hbl, -⟩ := hb
  have hlt := blk_lt h.blk
  have hmf := makeF Try.prog
  have hmost := h.ok.most
  have hroom := h.ok.room
  clear h hn hc
  unfold ptr
  obtain ⟨w1, hw1⟩ : ∃ w1, w1 = (w.alloc (strO n)).alloc (intO a) := ⟨_, rfl⟩
  have HX1 := Lib.hid (show Ext w w1 by rw [hw1]; exact ((Ext.refl w).alloc _).alloc _)
  have HB1 := Lib.hid (show w1.heap[w.heap.size]? = some (strO n) by rw [hw1]; exact blk_ext (heap_alloc_new _ _) ((Ext.refl _).alloc _))
  have HB2 := Lib.hid (show w1.heap[w.heap.size + 1]? = some (intO a) by rw [hw1]; exact heap_new (w.alloc (strO n)) _ (by simp) _)
  have HY1 := Lib.hid (HH.out.ext HX1.out)
  have HFI := Lib.hid ((find_calls w1 p b1 b2 M D s av HY1.out n HN.out))
  unfold strO intO at hw1
  obtain ⟨c, hcc⟩ : ∃ c, c = w.heap.size := ⟨_, rfl⟩
  go_enter Try.func19, Try.ntmps19
  go_upto_region 1 with fail
  rw [← hw1]
  rw [← hcc] at HB1 HB2 ⊢
  have HCC := Lib.hid hcc
  have hc0 : w1.cell? ⟨c, 0, none⟩ = some (.string ⟨n.toArray⟩) := cell_blk HB1.out 0
  clear hw1 hcc
  go_wp2_with fail
  refine HFI.out.mono ?_
  rintro e w2 ⟨rfl, hx2⟩
  have HX2 := Lib.hid (HX1.out.trans hx2)
  have HY2 := Lib.hid (HH.out.ext HX2.out)
  have HB3 := Lib.hid (blk_ext HB1.out hx2)
  have HB4 := Lib.hid (blk_ext HB2.out hx2)
  have hc1 : w2.cell? ⟨c + 1, 0, none⟩ = some (.int .i64 a) := cell_blk HB4.out 0
  have hc2 : w2.cell? ⟨c, 0, none⟩ = some (.string ⟨n.toArray⟩) := cell_blk HB3.out 0
  have hc4 : w2.cell? ⟨p, 4, none⟩ = some (.int .i64 s.room) := cell_blk HY2.out.blk 4
  have hc5 : w2.cell? ⟨p, 5, none⟩ = some (.map (some b1)) := cell_blk HY2.out.blk 5
  have hlt2 : p < w2.heap.size := blk_lt HY2.out.blk
  clear hx2 hc0
  by_cases hcase : findF s n = 21 ∧ a = 0
  · obtain ⟨hf, ha0⟩ := hcase
    obtain ⟨ho, -, -⟩ := find_file.1 hf
    have HOF := Lib.hid ho
    have HF := Lib.hid hf
    rw [hf]
    have hz0 : (a == 0) = true := beq_iff_eq.2 ha0
    have HA00 := Lib.hid ha0
    have hszl := HY2.out.sees.size 3
    have HSL := Lib.hid HY2.out.ok.seen_len
    clear hf ho ha0
    by_cases hfl : 4096 ≤ s.seen.length
    · have HE := Lib.hid (show writeS s n a bs = (7, s) by
        have e : writeF s n a bs = 7 := by unfold writeF; rw [if_pos ⟨HF.out, HA00.out⟩, if_pos hfl]
        unfold writeS
        rw [e, if_neg (by decide)])
      have hdl : decide ((4096 : Int) ≤ (s.seen.length : Int)) = true := decide_eq_true (by omega)
      go_wp2_with fail
      go_ret
      rw [HE.out]
      exact ⟨rfl, ext_p HH.out.x HX2.out⟩
    · have HWF := Lib.hid (show writeF s n a bs = if s.room - s.used < bs.length then 7 else 0 by unfold writeF; rw [if_pos ⟨HF.out, HA00.out⟩, if_neg hfl])
      have hdl : decide ((4096 : Int) ≤ (s.seen.length : Int)) = false := decide_eq_false (by omega)
      go_upto_region 9 with fail
      obtain ⟨w3, hw3⟩ : ∃ w3, w3 = w2 := ⟨_, rfl⟩
      have HX3 := Lib.hid (show Ext w w3 by rw [hw3]; exact HX2.out)
      have HY3 := Lib.hid (HH.out.ext HX3.out)
      have HB5 := Lib.hid (show w3.heap[c]? = some (strO n) by rw [hw3]; exact HB3.out)
      have HB6 := Lib.hid (show w3.heap[c + 1]? = some (intO a) by rw [hw3]; exact HB4.out)
      rw [← hw3] at hc1 hc2 hc4 hc5 hlt2 ⊢
      clear hw3 hszl hfl hdl
      have HS := Lib.hid (show ∀ W : World, Ext w3 W → Ext w3 W ∧ W.cell? ⟨p, 4, none⟩ = some (.int .i64 s.room) from fun W he => ⟨he, cell_blk (HY3.out.ext he).blk 4⟩)
      obtain ⟨u, hu⟩ : ∃ u, u = usedF s := ⟨_, rfl⟩
      have hu1 : u = (s.used : Int) := by rw [hu]; unfold usedF; rw [HOF.out]; rfl
      have hu2 : 0 ≤ u := by omega
      have hu3 : u ≤ s.room := by omega
      have hu4 : IntKind.i64.wrap (s.room - u) = s.room - u := IntWalk.i64_in _ (by omega)
      have HUU := Lib.hid hu
      have HU1 := Lib.hid hu1
      clear hu hu1
      by_cases hful : s.room - u < (bs.length : Int)
      · have HE := Lib.hid (show writeS s n a bs = (7, s) by
          have e : writeF s n a bs = 7 := by rw [HWF.out, if_pos (by rw [← HU1.out]; exact hful)]
          unfold writeS
          rw [e, if_neg (by decide)])
        have hdec : decide (s.room - u < (bs.length : Int)) = true := decide_eq_true hful
        go_region_held3 (fun W => Ext w3 W ∧ W.cell? ⟨p, 4, none⟩ = some (.int .i64 s.room))
          (first | exact HS.out _ (Ext.refl _).drew | exact HS.out _ ((Ext.refl _).drew.trans (by assumption)))
          (first | (go_at_call 30; refine (Used_calls _ p M D s (HY3.out.ext (Ext.refl _).drew).x).mono ?_; rw [← HUU.out]; rintro e w4 ⟨rfl, he4⟩))
        all_goals
          have HX4 := Lib.hid (HX3.out.trans (‹Ext w3 w4 ∧ _›).1)
          go_wp2_with fail
          go_ret
          rw [HE.out]
          exact ⟨rfl, ext_p HH.out.x HX4.out⟩
      · have HW0 := Lib.hid (show writeF s n a bs = 0 by rw [HWF.out, if_neg (by rw [← HU1.out]; exact hful)])
        have hdec : decide (s.room - u < (bs.length : Int)) = false := decide_eq_false hful
        have HA0 := Lib.hid (write_fits HH.out.ok HW0.out).2.2.2
        have HTB := Lib.hid (fun (W : World) (he : Ext w W) (hW1 : W.heap[c]? = some (strO n)) (hW2 : W.heap[c + 1]? = some (intO a)) (v : Value) (base : Nat) (hb : w.heap.size ≤ base) (hv : Ow kByte 5 W base (base ≤ ·) v bs) => write_tail HH.out he HCC.out hW1 hW2 HA0.out hb hv HW0.out HC.out)
        go_region_held3 (fun W => Ext w3 W ∧ W.cell? ⟨p, 4, none⟩ = some (.int .i64 s.room))
          (first | exact HS.out _ (Ext.refl _).drew | exact HS.out _ ((Ext.refl _).drew.trans (by assumption)))
          (first | (go_at_call 30; refine (Used_calls _ p M D s (HY3.out.ext (Ext.refl _).drew).x).mono ?_; rw [← HUU.out]; rintro e w4 ⟨rfl, he4⟩))
        all_goals
          have hx34 := (‹Ext w3 w4 ∧ _›).1
          have HX4 := Lib.hid (HX3.out.trans hx34)
          have HB7 := Lib.hid (blk_ext HB5.out hx34)
          have HB8 := Lib.hid (blk_ext HB6.out hx34)
          clear hx34 hu2 hu3 hu4 hdec hful
          go_wp2_with (at_builtin; refine wpList_append_Rs kByte rfl (.tmp 55) (.tmp 56) 23 5 rfl tBytes w4.heap.size _ _ [] bs (w4.heap.size ≤ ·) S rfl rfl (Ow.slit (xs := []) (heap_alloc_new _ _) (Nat.le_refl _) (Nat.le_refl _) (by simp) (by simp)) ((HBS.out.ext HX4.out).alloc _) (fun _ _ h => h) (fun k hk => by simp at hk; omega) (by simpa using hbl) (by simp) ?_)
          intro v' w5 ho hg hbk
          obtain ⟨x, rfl, hxl⟩ := ownBlock_head ho (own_some hbk (fun h => by cases h))
          have hx45 : Ext w4 w5 := ((Ext.refl w4).alloc _).grown hg (fun k hk => by have e : some w4.heap.size = some k := hk; injection e with e; omega)
          have HO5 := Lib.hid ho
          have HX5 := Lib.hid (HX4.out.trans hx45)
          have HB9 := Lib.hid (blk_ext HB7.out hx45)
          have HB0 := Lib.hid (blk_ext HB8.out hx45)
          clear ho hg hbk hx45 hxl
          unfold hdV at HO5 ⊢
          go_wp2_with fail
          refine (HTB.out _ HX5.out HB9.out HB0.out _ _ HX4.out.le HO5.out).mono ?_
          rintro e w6 ⟨rfl, hp⟩
          have HP := Lib.hid hp
          clear hp
          go_wp2_with fail
          go_ret
          exact ⟨rfl, HP.out⟩
  · by_cases hf : findF s n = 0
    · obtain ⟨ho, -, -⟩ := find_iff.1 hf
      have HOF := Lib.hid ho
      have HF := Lib.hid hf
      rw [hf]
      obtain ⟨A, m, cp, hlk, hrs, -⟩ := HY2.out.sees.at_ HN.out
      have hml := hrs.shape.1
      have HML := Lib.hid (show s.len n = m from hml.symm)
      have hmb : m ≤ 1073741824 := by
        have h1 := HH.out.ok.len_le n
        have h2 := HH.out.ok.most
        rw [show s.len n = m from hml.symm] at h1
        omega
      have hlq : ∀ j, (Instr.lookup 53 (.map (some b1)) (.string ⟨n.toArray⟩) false).run Try.prog (w2.drewN j) = .ok (.slice A m cp) (w2.drewN j) := fun j => hlk _ rfl
      have HNC := Lib.hid (show ¬ (findF s n = 21 ∧ a = 0) from hcase)
      clear hf ho hrs hlk hml hcase
      go_upto_region 7 with fail
      by_cases h0 : a < 0
      · have hd : decide (a < 0) = true := decide_eq_true h0
        have HE := Lib.hid (show writeS s n a bs = (1, s) by
          have e : writeF s n a bs = 1 := by unfold writeF; rw [if_neg HNC.out, if_pos HF.out, if_pos (.inl h0)]
          unfold writeS
          rw [e, if_neg (by decide)])
        go_quiet (fail)
        obtain ⟨w3, hw3⟩ : ∃ w3, w3 = w2.drewN nq := ⟨_, rfl⟩
        have HX3 := Lib.hid (show Ext w w3 by rw [hw3]; exact HX2.out.drewN _)
        rw [← hw3]
        clear hw3
        go_wp2_with fail
        go_ret
        rw [HE.out]
        exact ⟨rfl, ext_p HH.out.x HX3.out⟩
      · have hd : decide (a < 0) = false := decide_eq_false h0
        by_cases h1 : (m : Int) < a
        · have HE := Lib.hid (show writeS s n a bs = (1, s) by
            have e : writeF s n a bs = 1 := by unfold writeF; rw [if_neg HNC.out, if_pos HF.out, if_pos (.inr (by rw [HML.out]; exact h1))]
            unfold writeS
            rw [e, if_neg (by decide)])
          go_quiet (fail)
          obtain ⟨w3, hw3⟩ : ∃ w3, w3 = w2.drewN nq := ⟨_, rfl⟩
          have HX3 := Lib.hid (show Ext w w3 by rw [hw3]; exact HX2.out.drewN _)
          rw [← hw3]
          clear hw3
          go_wp2_with fail
          go_ret
          rw [HE.out]
          exact ⟨rfl, ext_p HH.out.x HX3.out⟩
        · have HWF := Lib.hid (show writeF s n a bs = if s.room - s.used < bs.length then 7 else 0 by unfold writeF; rw [if_neg HNC.out, if_pos HF.out, if_neg (by rw [HML.out]; omega)])
          go_quiet (fail)
          obtain ⟨w3, hw3⟩ : ∃ w3, w3 = w2.drewN nq := ⟨_, rfl⟩
          have HX3 := Lib.hid (show Ext w w3 by rw [hw3]; exact HX2.out.drewN _)
          have HY3 := Lib.hid (HH.out.ext HX3.out)
          have HB5 := Lib.hid (show w3.heap[c]? = some (strO n) by rw [hw3]; exact HB3.out)
          have HB6 := Lib.hid (show w3.heap[c + 1]? = some (intO a) by rw [hw3]; exact HB4.out)
          have hlt3 : p < w3.heap.size := blk_lt HY3.out.blk
          rw [← hw3]
          clear hw3 hlq h0 hd h1 hc1 hc2 hc4 hc5 hlt2
          go_upto_region 9 with fail
          have HS := Lib.hid (show ∀ W : World, Ext w3 W → Ext w3 W ∧ W.cell? ⟨p, 4, none⟩ = some (.int .i64 s.room) from fun W he => ⟨he, cell_blk (HY3.out.ext he).blk 4⟩)
          obtain ⟨u, hu⟩ : ∃ u, u = usedF s := ⟨_, rfl⟩
          have hu1 : u = (s.used : Int) := by rw [hu]; unfold usedF; rw [HOF.out]; rfl
          have hu2 : 0 ≤ u := by omega
          have hu3 : u ≤ s.room := by omega
          have hu4 : IntKind.i64.wrap (s.room - u) = s.room - u := IntWalk.i64_in _ (by omega)
          have HUU := Lib.hid hu
          have HU1 := Lib.hid hu1
          clear hu hu1
          by_cases hful : s.room - u < (bs.length : Int)
          · have HE := Lib.hid (show writeS s n a bs = (7, s) by
              have e : writeF s n a bs = 7 := by rw [HWF.out, if_pos (by rw [← HU1.out]; exact hful)]
              unfold writeS
              rw [e, if_neg (by decide)])
            have hdec : decide (s.room - u < (bs.length : Int)) = true := decide_eq_true hful
            go_region_held3 (fun W => Ext w3 W ∧ W.cell? ⟨p, 4, none⟩ = some (.int .i64 s.room))
              (first | exact HS.out _ (Ext.refl _).drew | exact HS.out _ ((Ext.refl _).drew.trans (by assumption)))
              (first | (go_at_call 30; refine (Used_calls _ p M D s (HY3.out.ext (Ext.refl _).drew).x).mono ?_; rw [← HUU.out]; rintro e w4 ⟨rfl, he4⟩))
            all_goals
              have HX4 := Lib.hid (HX3.out.trans (‹Ext w3 w4 ∧ _›).1)
              go_wp2_with fail
              go_ret
              rw [HE.out]
              exact ⟨rfl, ext_p HH.out.x HX4.out⟩
          · have HW0 := Lib.hid (show writeF s n a bs = 0 by rw [HWF.out, if_neg (by rw [← HU1.out]; exact hful)])
            have hdec : decide (s.room - u < (bs.length : Int)) = false := decide_eq_false hful
            have HA0 := Lib.hid (write_fits HH.out.ok HW0.out).2.2.2
            have HTB := Lib.hid (fun (W : World) (he : Ext w W) (hW1 : W.heap[c]? = some (strO n)) (hW2 : W.heap[c + 1]? = some (intO a)) (v : Value) (base : Nat) (hb : w.heap.size ≤ base) (hv : Ow kByte 5 W base (base ≤ ·) v bs) => write_tail HH.out he HCC.out hW1 hW2 HA0.out hb hv HW0.out HC.out)
            go_region_held3 (fun W => Ext w3 W ∧ W.cell? ⟨p, 4, none⟩ = some (.int .i64 s.room))
              (first | exact HS.out _ (Ext.refl _).drew | exact HS.out _ ((Ext.refl _).drew.trans (by assumption)))
              (first | (go_at_call 30; refine (Used_calls _ p M D s (HY3.out.ext (Ext.refl _).drew).x).mono ?_; rw [← HUU.out]; rintro e w4 ⟨rfl, he4⟩))
            all_goals
              have hx34 := (‹Ext w3 w4 ∧ _›).1
              have HX4 := Lib.hid (HX3.out.trans hx34)
              have HB7 := Lib.hid (blk_ext HB5.out hx34)
              have HB8 := Lib.hid (blk_ext HB6.out hx34)
              clear hx34 hu2 hu3 hu4 hdec hful
              go_wp2_with (at_builtin; refine wpList_append_Rs kByte rfl (.tmp 55) (.tmp 56) 23 5 rfl tBytes w4.heap.size _ _ [] bs (w4.heap.size ≤ ·) S rfl rfl (Ow.slit (xs := []) (heap_alloc_new _ _) (Nat.le_refl _) (Nat.le_refl _) (by simp) (by simp)) ((HBS.out.ext HX4.out).alloc _) (fun _ _ h => h) (fun k hk => by simp at hk; omega) (by simpa using hbl) (by simp) ?_)
              intro v' w5 ho hg hbk
              obtain ⟨x, rfl, hxl⟩ := ownBlock_head ho (own_some hbk (fun h => by cases h))
              have hx45 : Ext w4 w5 := ((Ext.refl w4).alloc _).grown hg (fun k hk => by have e : some w4.heap.size = some k := hk; injection e with e; omega)
              have HO5 := Lib.hid ho
              have HX5 := Lib.hid (HX4.out.trans hx45)
              have HB9 := Lib.hid (blk_ext HB7.out hx45)
              have HB0 := Lib.hid (blk_ext HB8.out hx45)
              clear ho hg hbk hx45 hxl
              unfold hdV at HO5 ⊢
              go_wp2_with fail
              refine (HTB.out _ HX5.out HB9.out HB0.out _ _ HX4.out.le HO5.out).mono ?_
              rintro e w6 ⟨rfl, hp⟩
              have HP := Lib.hid hp
              clear hp
              go_wp2_with fail
              go_ret
              exact ⟨rfl, HP.out⟩
    · have HE := Lib.hid (show writeS s n a bs = (findF s n, s) by
        have e : writeF s n a bs = findF s n := by unfold writeF; rw [if_neg hcase, if_neg hf]
        unfold writeS
        rw [e, if_neg hf])
      obtain ⟨r, hr⟩ : ∃ r, r = findF s n := ⟨_, rfl⟩
      rw [← hr] at hf hcase ⊢
      have hf2 : (r != 0) = true := bne_iff_ne.2 hf
      have HR := Lib.hid hr
      clear hr hf
      by_cases h21 : r = 21
      · have ha0 : (a == 0) = false := beq_eq_false_iff_ne.2 fun e => hcase ⟨h21, e⟩
        have hrr : (r == 21) = true := beq_iff_eq.2 h21
        clear hcase h21
        go_wp2_with fail
        go_ret
        rw [HE.out, HR.out]
        exact ⟨rfl, ext_p HH.out.x HX2.out⟩
      · have hrr : (r == 21) = false := beq_eq_false_iff_ne.2 h21
        clear hcase h21
        go_wp2_with fail
        go_ret
        rw [HE.out, HR.out]
        exact ⟨rfl, ext_p HH.out.x HX2.out⟩
end Go.Proofs.Ytjjhmknlhfijjaa
set_option linter.unusedVariables false
set_option linter.unusedSimpArgs false
namespace Go.Proofs.Ytjjhmknlhfijjaa
open Go.RowKit

def noC : Array Value := #[.bool false, .int .i64 0, .int .i64 0, .int .i64 0, .int .i64 0, .map none, .map none, .slice none 0 0]
def NoV (w : World) (v : Value) : Prop := v = .pointer none ∨ ∃ p, v = ptr p ∧ w.heap[p]? = some (.cells noC 56 (0, 0))
theorem NoV.ext {w w' : World} {v : Value} (h : NoV w v) (he : Ext w w') : NoV w' v := by
  rcases h with h | ⟨p, h, hb⟩
  · exact .inl h
  · exact .inr ⟨p, h, blk_ext hb he⟩
def Same6 (w : World) (e : Ending) (w' : World) : Prop := e = .returned (.int .i64 6) ∧ w = w'
def Ret6 (w : World) (e : Ending) (w' : World) : Prop := e = .returned (.int .i64 6) ∧ Ext w w'
set_option maxHeartbeats 400000 in
theorem ready_no (w : World) (v : Value) (h : NoV w v) : Calls Try.prog 45 #[v] w (Same6 w) := by
  have qE := eqlMap
  rcases h with rfl | ⟨p, rfl, hb⟩
  · go_enter Try.func45, Try.ntmps45
    go_wp2_with fail
    go_ret
    exact ⟨rfl, rfl⟩
  · have hc5 : w.cell? ⟨p, 5, none⟩ = some (.map none) := cell_blk hb 5
    have hlt := blk_lt hb
    clear hb
    unfold ptr
    go_enter Try.func45, Try.ntmps45
    go_wp2_with fail
    go_ret
    exact ⟨rfl, rfl⟩
set_option maxHeartbeats 400000 in
theorem find_no (w : World) (v x : Value) (h : NoV w v) : Calls Try.prog 49 #[v, x] w (Same6 w) := by
  have HR := Lib.hid (ready_no w v h)
  go_enter Try.func49, Try.ntmps49
  go_wp2_with fail
  refine HR.out.mono ?_
  rintro e w' ⟨rfl, rfl⟩
  go_wp2_with fail
  go_ret
  exact ⟨rfl, rfl⟩
set_option maxHeartbeats 400000 in
theorem Used_no (w : World) (v : Value) (h : NoV w v) : Calls Try.prog 30 #[v] w fun e w' => e = .returned (.int .i64 0) ∧ w = w' := by
  have HR := Lib.hid (ready_no w v h)
  go_enter Try.func30, Try.ntmps30
  go_wp2_with fail
  refine HR.out.mono ?_
  rintro e w' ⟨rfl, rfl⟩
  go_wp2_with fail
  go_ret
  exact ⟨rfl, rfl⟩
set_option maxHeartbeats 400000 in
theorem Pending_no (w : World) (v : Value) (h : NoV w v) : Calls Try.prog 29 #[v] w fun e w' => e = .returned (.int .i64 0) ∧ w = w' := by
  have HR := Lib.hid (ready_no w v h)
  go_enter Try.func29, Try.ntmps29
  go_wp2_with fail
  refine HR.out.mono ?_
  rintro e w' ⟨rfl, rfl⟩
  go_wp2_with fail
  go_ret
  exact ⟨rfl, rfl⟩
set_option maxHeartbeats 400000 in
theorem List_no (w : World) (v : Value) (h : NoV w v) : Calls Try.prog 23 #[v] w fun e w' => e = .returned (.slice none 0 0) ∧ w = w' := by
  have HR := Lib.hid (ready_no w v h)
  go_enter Try.func23, Try.ntmps23
  go_wp2_with fail
  refine HR.out.mono ?_
  rintro e w' ⟨rfl, rfl⟩
  go_wp2_with fail
  go_ret
  exact ⟨rfl, rfl⟩
set_option maxHeartbeats 400000 in
theorem Sync_no (w : World) (v : Value) (h : NoV w v) : Calls Try.prog 17 #[v] w (Ret6 w) := by
  have HR := Lib.hid (ready_no w v h)
  go_enter Try.func17, Try.ntmps17
  go_wp2_with fail
  refine HR.out.mono ?_
  rintro e w' ⟨rfl, rfl⟩
  go_wp2_with fail
  go_ret
  exact ⟨rfl, Ext.refl _⟩
set_option maxHeartbeats 400000 in
theorem Arm_no (w : World) (v x y z : Value) (h : NoV w v) : Calls Try.prog 16 #[v, x, y, z] w (Ret6 w) := by
  have HR := Lib.hid (ready_no w v h)
  go_enter Try.func16, Try.ntmps16
  go_wp2_with fail
  refine HR.out.mono ?_
  rintro e w' ⟨rfl, rfl⟩
  go_wp2_with fail
  go_ret
  exact ⟨rfl, Ext.refl _⟩
set_option maxHeartbeats 400000 in
theorem Crash_no (w : World) (v x y : Value) (h : NoV w v) : Calls Try.prog 20 #[v, x, y] w (Ret6 w) := by
  have HR := Lib.hid (ready_no w v h)
  go_enter Try.func20, Try.ntmps20
  go_wp2_with fail
  refine HR.out.mono ?_
  rintro e w' ⟨rfl, rfl⟩
  go_wp2_with fail
  go_ret
  exact ⟨rfl, Ext.refl _⟩
set_option maxHeartbeats 400000 in
theorem Start_no (w : World) (v : Value) (h : NoV w v) : Calls Try.prog 15 #[v] w (Ret6 w) := by
  have qE := eqlMap
  rcases h with rfl | ⟨p, rfl, hb⟩
  · go_enter Try.func15, Try.ntmps15
    go_wp2_with fail
    go_ret
    exact ⟨rfl, Ext.refl _⟩
  · have hc5 : w.cell? ⟨p, 5, none⟩ = some (.map none) := cell_blk hb 5
    have hlt := blk_lt hb
    clear hb
    unfold ptr
    go_enter Try.func15, Try.ntmps15
    go_wp2_with fail
    go_ret
    exact ⟨rfl, Ext.refl _⟩
set_option maxHeartbeats 400000 in
theorem Clone_no (w : World) (v : Value) (h : NoV w v) : Calls Try.prog 27 #[v] w fun e w' => e = .returned (.pointer none) ∧ Ext w w' := by
  have qE := eqlMap
  rcases h with rfl | ⟨p, rfl, hb⟩
  · go_enter Try.func27, Try.ntmps27
    go_wp2_with fail
    go_ret
    exact ⟨rfl, Ext.refl _⟩
  · have hc5 : w.cell? ⟨p, 5, none⟩ = some (.map none) := cell_blk hb 5
    have hlt := blk_lt hb
    clear hb
    unfold ptr
    go_enter Try.func27, Try.ntmps27
    go_wp2_with fail
    go_ret
    exact ⟨rfl, Ext.refl _⟩
set_option maxHeartbeats 400000 in
theorem Read_no (w : World) (v x : Value) (h : NoV w v) : Calls Try.prog 18 #[v, x] w fun e w' => e = .returned (.tuple #[.slice none 0 0, .int .i64 6]) ∧ w = w' := by
  have HR := Lib.hid (find_no w v x h)
  go_enter Try.func18, Try.ntmps18
  go_wp2_with fail
  refine HR.out.mono ?_
  rintro e w' ⟨rfl, rfl⟩
  go_wp2_with fail
  go_ret2
  exact ⟨rfl, rfl⟩
set_option maxHeartbeats 400000 in
theorem Drop_no (w : World) (v : Value) (n : Nam) (h : NoV w v) : Calls Try.prog 59 #[v, .string ⟨n.toArray⟩] w (Ret6 w) := by
  have HR := Lib.hid (fun (W : World) (x : Value) (hx : Ext w W) => find_no W v x (h.ext hx))
  go_enter Try.func59, Try.ntmps59
  go_wp2_with fail
  refine (HR.out _ _ ((Ext.refl w).alloc _)).mono ?_
  rintro e w' ⟨rfl, rfl⟩
  go_wp2_with fail
  go_ret
  exact ⟨rfl, (Ext.refl w).alloc _⟩
set_option maxHeartbeats 400000 in
theorem Move_no (w : World) (v : Value) (n t : Nam) (h : NoV w v) : Calls Try.prog 24 #[v, .string ⟨n.toArray⟩, .string ⟨t.toArray⟩] w (Ret6 w) := by
  have HR := Lib.hid (fun (W : World) (x : Value) (hx : Ext w W) => find_no W v x (h.ext hx))
  go_enter Try.func24, Try.ntmps24
  go_wp2_with fail
  refine (HR.out _ _ (((Ext.refl w).alloc _).alloc _)).mono ?_
  rintro e w' ⟨rfl, rfl⟩
  go_wp2_with fail
  go_ret
  exact ⟨rfl, ((Ext.refl w).alloc _).alloc _⟩
set_option maxHeartbeats 400000 in
theorem Trim_no (w : World) (v : Value) (n : Nam) (a : Int) (h : NoV w v) : Calls Try.prog 58 #[v, .string ⟨n.toArray⟩, .int .i64 a] w (Ret6 w) := by
  have HR := Lib.hid (fun (W : World) (x : Value) (hx : Ext w W) => find_no W v x (h.ext hx))
  go_enter Try.func58, Try.ntmps58
  go_wp2_with fail
  refine (HR.out _ _ (((Ext.refl w).alloc _).alloc _)).mono ?_
  rintro e w' ⟨rfl, rfl⟩
  go_wp2_with fail
  go_ret
  exact ⟨rfl, ((Ext.refl w).alloc _).alloc _⟩
set_option maxHeartbeats 400000 in
theorem Write_no (w : World) (v : Value) (n : Nam) (a : Int) (b : Value) (h : NoV w v) : Calls Try.prog 19 #[v, .string ⟨n.toArray⟩, .int .i64 a, b] w (Ret6 w) := by
  have HR := Lib.hid (fun (W : World) (x : Value) (hx : Ext w W) => find_no W v x (h.ext hx))
  go_enter Try.func19, Try.ntmps19
  go_wp2_with fail
  refine (HR.out _ _ (((Ext.refl w).alloc _).alloc _)).mono ?_
  rintro e w' ⟨rfl, rfl⟩
  go_wp2_with fail
  go_ret
  exact ⟨rfl, ((Ext.refl w).alloc _).alloc _⟩
end Go.Proofs.Ytjjhmknlhfijjaa
