/-
  Texts of this claim, put together: NetGets.
-/
import Derived.Test.YtfflcnlgkbgbhaaZ14
import Derived.Test.YtfflcnlgkbgbhaaZ17
import Derived.Test.YtfflcnlgkbgbhaaZ10
set_option linter.unusedVariables false
set_option linter.unusedSimpArgs false
namespace Go.Proofs.Ytfflcnlgkbgbhaa
open Go.RowKit

set_option maxRecDepth 1000000 in
set_option maxHeartbeats 8000000 in
theorem NetGets_walk (w : World) (S : Nat → Prop) (v : Value) (b : List UInt8) (hr : Rs kByte w S v b) :
    Calls Try.prog 4 #[v] w fun e w' => e = .returned (.bool true) ∧ Ext w w' := by
  have HR := Lib.hid hr.under
  obtain ⟨A, c, rfl, hl, hc, hz, hrow⟩ := hr
  clear hrow
  by_cases hbig : 65536 < b.length
  · have hbi : (65536 : Int) < (b.length : Int) := by omega
    go_enter Try.func4, Try.ntmps4
    go_wp2_with fail
    refine (awake_calls _).mono ?_
    rintro e w' ⟨rfl, hx⟩
    have HX := Lib.hid hx
    clear hx
    go_wp2_with fail
    go_ret
    exact ⟨rfl, HX.out⟩
  · have hle : b.length ≤ 65536 := by omega
    clear hbig
    go_enter Try.func4, Try.ntmps4
    go_wp2_with fail
    refine (Clone_calls _ _ _ _ HR.out (by omega)).mono ?_
    rintro e w1 ⟨g1, rfl, ho, he⟩
    have HG := Lib.hid ho.rs.under
    have HE1 := Lib.hid he
    clear ho he
    go_wp2_with fail
    refine (Get_calls _ _ _ _ HG.out).mono ?_
    rintro e w2 ⟨mv, rfl, hm, hx⟩
    have HM := Lib.hid hm.under
    have HE2 := Lib.hid (HE1.out.trans hx)
    have HG2 := Lib.hid (HG.out.ext hx)
    obtain ⟨Ae, ce, Av, cv, Ad, cd, rfl, -⟩ := hm.form
    clear hm hx HG HE1
    have HGR := Lib.hid (getR_eq b)
    obtain ⟨m, me, hme⟩ := asPair (getM b)
    rw [hme] at HM HGR ⊢
    clear hme
    dsimp only [msgC] at HM ⊢
    go_upto_region 5 with fail
    obtain ⟨w3, hw3⟩ : ∃ w3, w3 = w2.alloc (.cells (msgC m (.slice Ae m.entries.length ce) (.slice Av m.voters.length cv) (.slice Ad m.data.length cd)) 26) := ⟨_, rfl⟩
    have HB3 := Lib.hid (show w3.heap[w2.heap.size]? = some (.cells (msgC m (.slice Ae m.entries.length ce) (.slice Av m.voters.length cv) (.slice Ad m.data.length cd)) 26 (0, 0)) by rw [hw3]; exact heap_new w2 _ rfl _)
    have hx : Ext w2 w3 := by rw [hw3]; exact (Ext.refl w2).alloc _
    have HM3 := Lib.hid (HM.out.ext hx)
    have HG3 := Lib.hid (HG2.out.ext hx)
    have HE3 := Lib.hid (HE2.out.trans hx)
    unfold msgC at hw3
    rw [← hw3]
    obtain ⟨q, hq⟩ : ∃ q, q = w2.heap.size := ⟨_, rfl⟩
    rw [← hq] at HB3 ⊢
    clear hw3 hx hq HM HG2 HE2
    go_wp2_with fail
    refine (RGet_calls _ _ _ _ (HR.out.ext HE3.out)).mono ?_
    rw [HGR.out]
    rintro e w4 ⟨mv, rfl, hm, hx⟩
    have HX4 := Lib.hid hm.under
    have HM4 := Lib.hid (HM3.out.ext hx)
    have HB4 := Lib.hid (blk_ext HB3.out hx)
    have HG4 := Lib.hid (HG3.out.ext hx)
    have HE4 := Lib.hid (HE3.out.trans hx)
    obtain ⟨Be, de, Bv, dv, Bd, dd, rfl, -⟩ := hm.form
    clear hm hx HM3 HB3 HG3 HE3
    dsimp only [msgC] at HX4 ⊢
    go_upto_region 6 with fail
    obtain ⟨w5, hw5⟩ : ∃ w5, w5 = w4.alloc (.cells (msgC m (.slice Be m.entries.length de) (.slice Bv m.voters.length dv) (.slice Bd m.data.length dd)) 26) := ⟨_, rfl⟩
    have hb5 : w5.heap[w4.heap.size]? = some (.cells (msgC m (.slice Be m.entries.length de) (.slice Bv m.voters.length dv) (.slice Bd m.data.length dd)) 26 (0, 0)) := by rw [hw5]; exact heap_new w4 _ rfl _
    have hx : Ext w4 w5 := by rw [hw5]; exact (Ext.refl w4).alloc _
    have HX5 := Lib.hid (HX4.out.ext hx)
    have HM5 := Lib.hid (HM4.out.ext hx)
    have HG5 := Lib.hid (HG4.out.ext hx)
    have HE5 := Lib.hid (HE4.out.trans hx)
    have hb3 := blk_ext HB4.out hx
    unfold msgC at hw5
    rw [← hw5]
    obtain ⟨⟨x0, x1, x2, x3, x4, x5, x6, x7, x8, x9, x10, x11, x12⟩, -⟩ := msg_cells hb3
    obtain ⟨⟨y0, y1, y2, y3, y4, y5, y6, y7, y8, y9, y10, y11, y12⟩, -⟩ := msg_cells hb5
    clear hw5 hx HX4 HM4 HG4 HE4 hb3 hb5 HB4
    go_wp2_with fail
    refine (same_calls _ _ _ _ _ m m HM5.out HX5.out).mono ?_
    rw [decide_eq_true (rfl : m = m)]
    rintro e w6 ⟨rfl, hx⟩
    have HG6 := Lib.hid (HG5.out.ext hx)
    have HE6 := Lib.hid (HE5.out.trans hx)
    clear x0 x1 x2 x3 x4 x5 x6 x7 x8 x9 x10 x11 x12 y0 y1 y2 y3 y4 y5 y6 y7 y8 y9 y10 y11 y12 hx HX5 HM5 HG5 HE5
    have hee : ((me : Int) == (me : Int)) = true := beq_self_eq_true _
    go_wp2_with fail
    refine (Equal_calls _ _ _ _ _ b b HG6.out (HR.out.ext HE6.out)).mono ?_
    rw [beq_self_eq_true]
    rintro e w7 ⟨rfl, rfl⟩
    go_wp2_with fail
    refine (awake_calls _).mono ?_
    rintro e w8 ⟨rfl, hx⟩
    have HE8 := Lib.hid (HE6.out.trans hx)
    clear hx
    go_wp2_with fail
    go_ret
    exact ⟨rfl, HE8.out⟩
end Go.Proofs.Ytfflcnlgkbgbhaa
