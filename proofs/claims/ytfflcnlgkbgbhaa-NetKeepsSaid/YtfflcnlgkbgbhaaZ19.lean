/-
  Texts of this claim, put together: Agg, NetBack.
-/
import Derived.Test.YtfflcnlgkbgbhaaZ1
import Derived.Test.YtfflcnlgkbgbhaaZ18
set_option linter.unusedVariables false
set_option linter.unusedSimpArgs false
namespace Go.Proofs.Ytfflcnlgkbgbhaa
open Go.RowKit
theorem agg_arg {P : Program} {t : TypeId} {fs : Array Field} {α : Type} {d : Kd α} {H : Type} {enc : TypeId × Value → H} {w : World} {r : Reach} {b0 base : Nat} {spare : Nat → Bool} {held : Bool} {v : Value} {y : DataW H} {ps : List MemPlace} (ht : P.underlying t = some (.struct fs)) (hv : Value.okWide P w r b0 t v) (hd : Opens P t d)
    {ts : List TypeId} {ds : List (DataW H)} (hwt : (DataW.weightsEach P ts ds).all (· ≤ reachBytes) = true) (j : Nat) (hj : ts[j]? = some t) (hk : ds[j]? = some y)
    (h : DataW.Trod enc P w base spare held t v y ps) : ∃ (cs : Array Value) (x : α), v = .agg cs ∧ d.K w (· < w.heap.size) x cs.toList := by
  obtain ⟨cs, rfl, _⟩ := Go.WideShapes.okWide_struct ht hv
  obtain ⟨fuel, hf⟩ := h
  obtain ⟨x, hx⟩ := hd.2 _ _ _ _ _ _ _ _ _ hf fun n hn => by
    have := List.all_eq_true.1 hwt _ (DataW.weights_mem_each hj hk n hn)
    simpa using this
  exact ⟨cs, x, rfl, hx⟩
end Go.Proofs.Ytfflcnlgkbgbhaa
set_option linter.unusedVariables false
set_option linter.unusedSimpArgs false
namespace Go.Proofs.Ytfflcnlgkbgbhaa
open Go.RowKit

theorem MsgV.of_K {w : World} {S : Nat → Prop} {cs : Array Value} {m : MsgS} (h : kMsg.K w S m cs.toList) : MsgV w S (.agg cs) m := by
  obtain ⟨ve, vv, vd, e, h1, h2, h3, h4⟩ := kMsg_iff.1 h
  exact ⟨ve, vv, vd, by rw [show cs = msgC m ve vv vd from Array.toList_inj.1 e], h1, h2, h3, h4⟩
theorem put_get2 {b : List UInt8} (h : (getM b).2 = 0) : putM (getM b).1 = (b, 0) := by
  obtain ⟨h1, h2⟩ := put_get h
  rw [putM_yes h1, h2]
theorem getM_bad {b : List UInt8} (h : (getM b).2 ≠ 0) : (getM b).1 = zeroM := by
  unfold getM at h ⊢
  split at h
  · rename_i h0; rw [if_pos h0]
  · rename_i h0
    rw [if_neg h0]
    split at h
    · rename_i h1; rw [if_pos h1]
    · rename_i h1
      rw [if_neg h1]
      split at h
      · exact absurd rfl h
      · rename_i h2; rw [if_neg h2]
theorem get_put2 {m : MsgS} (h : (putM m).2 = 0) : getM (putM m).1 = (m, 0) := by
  have hc := putM_zero.1 h
  rw [putM_yes hc]; exact get_put hc

set_option maxRecDepth 1000000 in
set_option maxHeartbeats 16000000 in
theorem NetBack_walk (w : World) (cs : Array Value) (m : MsgS) (hm : kMsg.K w (· < w.heap.size) m cs.toList) (S2 : Nat → Prop) (v2 : Value) (b : List UInt8) (hr : Rs kByte w S2 v2 b) :
    Calls Try.prog 5 #[.agg cs, v2] w fun e w' => e = .returned (.bool true) ∧ Ext w w' := by
  have HR := Lib.hid hr.under
  have HM := Lib.hid (MsgV.of_K hm)
  obtain ⟨A, c, rfl, hl, hc, hz, hrow⟩ := hr
  clear hrow hm
  obtain ⟨Ae, ce, Av, cv, Ad, cd, e, -⟩ := HM.out.form
  injection e with e
  subst e
  dsimp only [msgC] at HM ⊢
  go_enter Try.func5, Try.ntmps5
  go_upto_region 1 with fail
  obtain ⟨w1, hw1⟩ : ∃ w1, w1 = w.alloc (.cells (msgC m (.slice Ae m.entries.length ce) (.slice Av m.voters.length cv) (.slice Ad m.data.length cd)) 26) := ⟨_, rfl⟩
  have HB1 := Lib.hid (show w1.heap[w.heap.size]? = some (.cells (msgC m (.slice Ae m.entries.length ce) (.slice Av m.voters.length cv) (.slice Ad m.data.length cd)) 26 (0, 0)) by rw [hw1]; exact heap_new w _ rfl _)
  have HE1 := Lib.hid (show Ext w w1 by rw [hw1]; exact (Ext.refl w).alloc _)
  unfold msgC at hw1
  rw [← hw1]
  obtain ⟨q, hq⟩ : ∃ q, q = w.heap.size := ⟨_, rfl⟩
  rw [← hq] at HB1 ⊢
  clear hw1 hq
  obtain ⟨⟨x0, x1, x2, x3, x4, x5, x6, x7, x8, x9, x10, x11, x12⟩, -⟩ := msg_cells HB1.out
  go_wp2_with fail
  obtain ⟨w2, hw2⟩ : ∃ w2, w2 = w1.alloc (.cells (msgC m (.slice Ae m.entries.length ce) (.slice Av m.voters.length cv) (.slice Ad m.data.length cd)) 26) := ⟨_, rfl⟩
  have hb2 : w2.heap[w1.heap.size]? = some (.cells (msgC m (.slice Ae m.entries.length ce) (.slice Av m.voters.length cv) (.slice Ad m.data.length cd)) 26 (0, 0)) := by rw [hw2]; exact heap_new w1 _ rfl _
  have HE2 := Lib.hid (show Ext w w2 by rw [hw2]; exact HE1.out.alloc _)
  have HB2 := Lib.hid (show w2.heap[q]? = some (.cells (msgC m (.slice Ae m.entries.length ce) (.slice Av m.voters.length cv) (.slice Ad m.data.length cd)) 26 (0, 0)) by rw [hw2]; exact blk_ext HB1.out ((Ext.refl w1).alloc _))
  unfold msgC at hw2
  rw [← hw2]
  clear hw2
  refine (weight_calls w2 (fun _ => True) _ [m] (Rs.one_msg hb2 trivial ((HM.out.ext HE2.out).mono (fun _ _ => trivial)))).mono ?_
  rintro e w3 ⟨⟨z, rfl, hz0, hz2, -⟩, n3, rfl⟩
  have HE3 := Lib.hid (HE2.out.drewN n3)
  have HB3 := Lib.hid (show (w2.drewN n3).heap[q]? = some (.cells (msgC m (.slice Ae m.entries.length ce) (.slice Av m.voters.length cv) (.slice Ad m.data.length cd)) 26 (0, 0)) from HB2.out)
  obtain ⟨w4, hw4⟩ : ∃ w4, w4 = w2.drewN n3 := ⟨_, rfl⟩
  rw [← hw4] at HE3 HB3 ⊢
  clear hb2 hw4 HE2 HB2 HE1 HB1 x0 x1 x2 x3 x4 x5 x6 x7 x8 x9 x10 x11 x12
  by_cases hbig : 65536 < z ∨ 65536 < (b.length : Int)
  · have h2 : 65536 < z ∨ (¬ 65536 < z ∧ 65536 < (b.length : Int)) := by omega
    clear hbig
    rcases h2 with h1 | ⟨h1, h2⟩
    all_goals
      go_wp2_with fail
      refine (awake_calls _).mono ?_
      rintro e w' ⟨rfl, hx⟩
      have HX := Lib.hid (HE3.out.trans hx)
      clear hx
      go_wp2_with fail
      go_ret
      exact ⟨rfl, HX.out⟩
  · have h1 : ¬ 65536 < z := by omega
    have h2 : ¬ 65536 < (b.length : Int) := by omega
    clear hbig
    obtain ⟨⟨x0, x1, x2, x3, x4, x5, x6, x7, x8, x9, x10, x11, x12⟩, -⟩ := msg_cells HB3.out
    go_wp2_with fail
    refine (Put_calls w4 _ _ m (HM.out.ext HE3.out)).mono ?_
    rintro e w5 ⟨p, rfl, ho, hx⟩
    have HP := Lib.hid ho.rs
    have HE5 := Lib.hid (HE3.out.trans hx)
    have HB5 := Lib.hid (blk_ext HB3.out hx)
    clear ho hx HE3 HB3 x0 x1 x2 x3 x4 x5 x6 x7 x8 x9 x10 x11 x12
    by_cases hpe : (putM m).2 = 0
    · have HGP := Lib.hid (get_put2 hpe)
      rw [hpe]
      clear hpe
      obtain ⟨Ap, cp, ep, _⟩ := id HP.out
      subst ep
      go_wp2_with fail
      refine (Get_calls _ _ _ _ HP.out).mono ?_
      rw [HGP.out]
      rintro e w6 ⟨mv, rfl, hx6, hx⟩
      have HX6 := Lib.hid hx6.under
      have HE6 := Lib.hid (HE5.out.trans hx)
      have HB6 := Lib.hid (blk_ext HB5.out hx)
      obtain ⟨Be, de, Bv, dv, Bd, dd, rfl, -⟩ := hx6.form
      clear hx hx6 HE5 HB5 HP
      dsimp only [msgC] at HX6 ⊢
      go_upto_region 6 with fail
      obtain ⟨w7, hw7⟩ : ∃ w7, w7 = w6.alloc (.cells (msgC m (.slice Be m.entries.length de) (.slice Bv m.voters.length dv) (.slice Bd m.data.length dd)) 26) := ⟨_, rfl⟩
      have hb7 : w7.heap[w6.heap.size]? = some (.cells (msgC m (.slice Be m.entries.length de) (.slice Bv m.voters.length dv) (.slice Bd m.data.length dd)) 26 (0, 0)) := by rw [hw7]; exact heap_new w6 _ rfl _
      have hx : Ext w6 w7 := by rw [hw7]; exact (Ext.refl w6).alloc _
      have HX7 := Lib.hid (HX6.out.ext hx)
      have HE7 := Lib.hid (HE6.out.trans hx)
      have hq7 := blk_ext HB6.out hx
      unfold msgC at hw7
      rw [← hw7]
      clear hw7 hx HX6 HE6 HB6
      obtain ⟨⟨x0, x1, x2, x3, x4, x5, x6, x7, x8, x9, x10, x11, x12⟩, -⟩ := msg_cells hb7
      obtain ⟨⟨z0, z1, z2, z3, z4, z5, z6, z7, z8, z9, z10, z11, z12⟩, -⟩ := msg_cells hq7
      clear hb7 hq7
      go_wp2_with fail
      refine (same_calls _ _ _ _ _ m m HX7.out (HM.out.ext HE7.out)).mono ?_
      rw [decide_eq_true (rfl : m = m)]
      rintro e wA ⟨rfl, hx⟩
      have HEA := Lib.hid (HE7.out.trans hx)
      clear hx HX7 HE7 x0 x1 x2 x3 x4 x5 x6 x7 x8 x9 x10 x11 x12 z0 z1 z2 z3 z4 z5 z6 z7 z8 z9 z10 z11 z12
      go_wp2_with fail
      refine (Get_calls _ _ _ _ (HR.out.ext HEA.out)).mono ?_
      rintro e w8 ⟨mv, rfl, hx8, hx⟩
      have HX8 := Lib.hid hx8.under
      have HE8 := Lib.hid (HEA.out.trans hx)
      obtain ⟨Fe, fe, Fv, fv, Fd, fd, rfl, -⟩ := hx8.form
      clear hx hx8
      have HG0 := Lib.hid (fun h => @getM_bad b h)
      have HG1 := Lib.hid (fun h => @put_get2 b h)
      obtain ⟨x, xe, hxe⟩ := asPair (getM b)
      rw [hxe] at HX8 HG0 HG1 ⊢
      clear hxe
      dsimp only [msgC] at HX8 HG0 HG1 ⊢
      go_upto_region 9 with fail
      obtain ⟨w9, hw9⟩ : ∃ w9, w9 = w8.alloc (.cells (msgC x (.slice Fe x.entries.length fe) (.slice Fv x.voters.length fv) (.slice Fd x.data.length fd)) 26) := ⟨_, rfl⟩
      have HB9 := Lib.hid (show w9.heap[w8.heap.size]? = some (.cells (msgC x (.slice Fe x.entries.length fe) (.slice Fv x.voters.length fv) (.slice Fd x.data.length fd)) 26 (0, 0)) by rw [hw9]; exact heap_new w8 _ rfl _)
      have hx : Ext w8 w9 := by rw [hw9]; exact (Ext.refl w8).alloc _
      have HX9 := Lib.hid (HX8.out.ext hx)
      have HE9 := Lib.hid (HE8.out.trans hx)
      unfold msgC at hw9
      rw [← hw9]
      obtain ⟨r, hr⟩ : ∃ r, r = w8.heap.size := ⟨_, rfl⟩
      rw [← hr] at HB9 ⊢
      clear hw9 hr hx HX8 HE8
      obtain ⟨⟨y0, y1, y2, y3, y4, y5, y6, y7, y8, y9, y10, y11, y12⟩, -⟩ := msg_cells HB9.out
      by_cases hxe : xe = 0
      · subst hxe
        have hpx := HG1.out rfl
        have HPX := Lib.hid hpx
        clear hpx HG0 HG1
        go_wp2_with fail
        refine (Put_calls w9 _ _ x HX9.out).mono ?_
        rw [HPX.out]
        rintro e w10 ⟨u, rfl, ho, hx⟩
        have HO := Lib.hid ho.rs
        have HE10 := Lib.hid (HE9.out.trans hx)
        clear ho hx y0 y1 y2 y3 y4 y5 y6 y7 y8 y9 y10 y11 y12
        dsimp only
        go_wp2_with fail
        refine (Equal_calls _ _ _ _ _ b b HO.out (HR.out.ext HE10.out)).mono ?_
        rw [beq_self_eq_true]
        rintro e w11 ⟨rfl, rfl⟩
        go_wp2_with fail
        refine (awake_calls _).mono ?_
        rintro e w12 ⟨rfl, hx⟩
        have HE12 := Lib.hid (HE10.out.trans hx)
        clear hx
        go_wp2_with fail
        go_ret
        exact ⟨rfl, HE12.out⟩
      · have hz0 := HG0.out hxe
        subst hz0
        have hne : ((xe : Int) != 0) = true := bne_iff_ne.2 (by omega)
        clear HG0 HG1 hxe
        go_wp2_with fail
        refine (same_calls _ _ (fun _ => True) _ _ zeroM zeroM HX9.out (zero_V _ _)).mono ?_
        rw [decide_eq_true (rfl : zeroM = zeroM)]
        rintro e w10 ⟨rfl, hx⟩
        have HE10 := Lib.hid (HE9.out.trans hx)
        clear hx y0 y1 y2 y3 y4 y5 y6 y7 y8 y9 y10 y11 y12
        go_wp2_with fail
        refine (awake_calls _).mono ?_
        rintro e w12 ⟨rfl, hx⟩
        have HE12 := Lib.hid (HE10.out.trans hx)
        clear hx
        go_wp2_with fail
        go_ret
        exact ⟨rfl, HE12.out⟩
    · have hpb : (((putM m).2 : Int) == 0) = false := beq_eq_false_iff_ne.2 (by omega)
      obtain ⟨Ap, cp, ep, _⟩ := id HP.out
      subst ep
      generalize (putM m).2 = pe at hpb ⊢
      have HEA := HE5
      clear hpe
      go_wp2_with fail
      refine (Get_calls _ _ _ _ (HR.out.ext HEA.out)).mono ?_
      rintro e w8 ⟨mv, rfl, hx8, hx⟩
      have HX8 := Lib.hid hx8.under
      have HE8 := Lib.hid (HEA.out.trans hx)
      obtain ⟨Fe, fe, Fv, fv, Fd, fd, rfl, -⟩ := hx8.form
      clear hx hx8
      have HG0 := Lib.hid (fun h => @getM_bad b h)
      have HG1 := Lib.hid (fun h => @put_get2 b h)
      obtain ⟨x, xe, hxe⟩ := asPair (getM b)
      rw [hxe] at HX8 HG0 HG1 ⊢
      clear hxe
      dsimp only [msgC] at HX8 HG0 HG1 ⊢
      go_upto_region 9 with fail
      obtain ⟨w9, hw9⟩ : ∃ w9, w9 = w8.alloc (.cells (msgC x (.slice Fe x.entries.length fe) (.slice Fv x.voters.length fv) (.slice Fd x.data.length fd)) 26) := ⟨_, rfl⟩
      have HB9 := Lib.hid (show w9.heap[w8.heap.size]? = some (.cells (msgC x (.slice Fe x.entries.length fe) (.slice Fv x.voters.length fv) (.slice Fd x.data.length fd)) 26 (0, 0)) by rw [hw9]; exact heap_new w8 _ rfl _)
      have hx : Ext w8 w9 := by rw [hw9]; exact (Ext.refl w8).alloc _
      have HX9 := Lib.hid (HX8.out.ext hx)
      have HE9 := Lib.hid (HE8.out.trans hx)
      unfold msgC at hw9
      rw [← hw9]
      obtain ⟨r, hr⟩ : ∃ r, r = w8.heap.size := ⟨_, rfl⟩
      rw [← hr] at HB9 ⊢
      clear hw9 hr hx HX8 HE8
      obtain ⟨⟨y0, y1, y2, y3, y4, y5, y6, y7, y8, y9, y10, y11, y12⟩, -⟩ := msg_cells HB9.out
      by_cases hxe : xe = 0
      · subst hxe
        have hpx := HG1.out rfl
        have HPX := Lib.hid hpx
        clear hpx HG0 HG1
        go_wp2_with fail
        refine (Put_calls w9 _ _ x HX9.out).mono ?_
        rw [HPX.out]
        rintro e w10 ⟨u, rfl, ho, hx⟩
        have HO := Lib.hid ho.rs
        have HE10 := Lib.hid (HE9.out.trans hx)
        clear ho hx y0 y1 y2 y3 y4 y5 y6 y7 y8 y9 y10 y11 y12
        dsimp only
        go_wp2_with fail
        refine (Equal_calls _ _ _ _ _ b b HO.out (HR.out.ext HE10.out)).mono ?_
        rw [beq_self_eq_true]
        rintro e w11 ⟨rfl, rfl⟩
        go_wp2_with fail
        refine (awake_calls _).mono ?_
        rintro e w12 ⟨rfl, hx⟩
        have HE12 := Lib.hid (HE10.out.trans hx)
        clear hx
        go_wp2_with fail
        go_ret
        exact ⟨rfl, HE12.out⟩
      · have hz0 := HG0.out hxe
        subst hz0
        have hne : ((xe : Int) != 0) = true := bne_iff_ne.2 (by omega)
        clear HG0 HG1 hxe
        go_wp2_with fail
        refine (same_calls _ _ (fun _ => True) _ _ zeroM zeroM HX9.out (zero_V _ _)).mono ?_
        rw [decide_eq_true (rfl : zeroM = zeroM)]
        rintro e w10 ⟨rfl, hx⟩
        have HE10 := Lib.hid (HE9.out.trans hx)
        clear hx y0 y1 y2 y3 y4 y5 y6 y7 y8 y9 y10 y11 y12
        go_wp2_with fail
        refine (awake_calls _).mono ?_
        rintro e w12 ⟨rfl, hx⟩
        have HE12 := Lib.hid (HE10.out.trans hx)
        clear hx
        go_wp2_with fail
        go_ret
        exact ⟨rfl, HE12.out⟩
end Go.Proofs.Ytfflcnlgkbgbhaa
