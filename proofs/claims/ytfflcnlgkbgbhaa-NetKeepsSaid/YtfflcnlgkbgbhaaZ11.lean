/-
  Texts of this claim, put together: MsgSame, BagS, MsgPut, BagKit.
-/
import Derived.Test.YtfflcnlgkbgbhaaZ10
import Derived.Test.YtfflcnlgkbgbhaaZ3
import Derived.Test.YtfflcnlgkbgbhaaZ4
import Derived.Test.YtfflcnlgkbgbhaaZ2
import Derived.Test.YtfflcnlgkbgbhaaZ6
import Derived.Lib.SliceRun
set_option linter.unusedVariables false
set_option linter.unusedSimpArgs false
namespace Go.Proofs.Ytfflcnlgkbgbhaa
open Go.RowKit

/-- An entry of a row, field by field. -/
theorem Row.entF {w : World} {S : Nat → Prop} {A : Option Addr} {es : List EntS} (h : Row kEnt w S A es) {j : Nat} (hj : j < es.length) : ∃ ad Ad cd, A = some ad ∧ w.cell? (ad.add (j * 3)) = some (.int .i64 es[j].index) ∧ w.cell? ((ad.add (j * 3)).add 1) = some (.int .i64 es[j].term) ∧
    w.cell? ((ad.add (j * 3)).add 2) = some (.slice Ad es[j].data.length cd) ∧ w.cell? ⟨(ad.add (j * 3)).block, (ad.add (j * 3)).off + 1, none⟩ = some (.int .i64 es[j].term) ∧
    w.cell? ⟨(ad.add (j * 3)).block, (ad.add (j * 3)).off + 2, none⟩ = some (.slice Ad es[j].data.length cd) ∧ Rs kByte w S (.slice Ad es[j].data.length cd) es[j].data ∧ I64 es[j].index ∧ I64 es[j].term := by
  obtain ⟨ad, Ad, cd, rfl, h0, h1, h2, h3, h4, h5⟩ := h.ent hj
  refine ⟨ad, Ad, cd, rfl, h0, ?_, ?_, h1, h2, h3, h4, h5⟩
  · rw [← h1]; rfl
  · rw [← h2]; rfl

set_option maxRecDepth 100000 in
set_option maxHeartbeats 4000000 in
theorem Same_calls (w : World) (S T : Nat → Prop) (v u : Value) (xs ys : List EntS) (h1 : Rs kEnt w S v xs) (h2 : Rs kEnt w T u ys) :
    Calls Try.prog 53 #[v, u] w fun e w' => e = .returned (.bool (decide (xs = ys))) ∧ ∃ n, w' = w.drewN n := by
  have HR1 := Lib.hid h1
  have HR2 := Lib.hid h2
  obtain ⟨A, c, rfl, hl, hc, hz, _⟩ := h1
  obtain ⟨A', c', rfl, hl', hc', hz', _⟩ := h2
  by_cases hlen : xs.length = ys.length
  · have hne : ((xs.length : Int) != (ys.length : Int)) = false := by simp [hlen]
    have HLN := Lib.hid hlen
    clear hlen
    go_enter Try.func53, Try.ntmps53
    go_wp2_with fail
    clear hne
    go_loopw [13] (fun i wr => ∃ k : Nat, k ≤ xs.length ∧ i = .int .i64 k ∧ Hid (xs.take k = ys.take k) ∧ Hid (∃ n, wr = w.drewN n)) (fun i _ => xs.length - (intOf i).toNat)
    case atStart => exact ⟨0, Nat.zero_le _, rfl, Lib.hid rfl, Lib.hid ⟨0, rfl⟩⟩
    case round =>
      obtain ⟨k, hk, rfl, HQ, HW⟩ := hrel
      obtain ⟨n0, rfl⟩ := HW.out
      by_cases hlt : k < xs.length
      · have hlt2 : k < ys.length := by have := HLN.out; omega
        obtain ⟨ad, Ad, cd, rfl, a0, a1, a2, a3, a4, ha, _, _⟩ := HR1.out.shape.2.2.2.2.entF hlt
        obtain ⟨bd, Bd, dd, rfl, b0, b1, b2, b3, b4, hb, _, _⟩ := HR2.out.shape.2.2.2.2.entF hlt2
        have HEQ := Lib.hid (show xs = ys → xs[k] = ys[k] by rintro rfl; rfl)
        have HTK := Lib.hid (show xs[k] = ys[k] → xs.take (k + 1) = ys.take (k + 1) by
          intro h
          rw [List.take_succ_eq_append_getElem hlt, List.take_succ_eq_append_getElem hlt2, HQ.out, h])
        generalize xs[k] = x at a0 a1 a2 a3 a4 ha HEQ HTK
        generalize ys[k] = y at b0 b1 b2 b3 b4 hb HEQ HTK
        obtain ⟨xi, xt, xd⟩ := x
        obtain ⟨yi, yt, yd⟩ := y
        dsimp only at a0 a1 a2 a3 a4 ha b0 b1 b2 b3 b4 hb
        have hcv1 : ∀ a : Nat, (convert 24 9 (.slice Ad xd.length cd)).run Try.prog (w.drewN a) = .ok (.string ⟨xd.toArray⟩) (w.drewN a) := fun a => (ha.drewN a).to_string Try.underlying24 tByte tString
        have hcv2 : ∀ a : Nat, (convert 24 9 (.slice Bd yd.length dd)).run Try.prog (w.drewN a) = .ok (.string ⟨yd.toArray⟩) (w.drewN a) := fun a => (hb.drewN a).to_string Try.underlying24 tByte tString
        clear ha hb
        by_cases g1 : xi = yi
        · have t1 : (xi != yi) = false := by rw [g1]; simp
          by_cases g2 : xt = yt
          · have t2 : (xt != yt) = false := by rw [g2]; simp
            by_cases g3 : xd = yd
            · have t3 : (xd != yd) = false := by rw [g3]; simp
              have t4 : (xd == yd) = true := by rw [g3]; simp
              have HQ2 := Lib.hid (HTK.out (by rw [g1, g2, g3]))
              clear g1 g2 g3 HEQ HTK HQ
              go_wp2_with fail
              go_quiet (fail)
              go_wp2_with fail
              go_roundw
              case rel => exact ⟨k + 1, by omega, by go_num, HQ2, Lib.hid ⟨_, rfl⟩⟩
              case measure => simp [intOf]; omega
            · have t3 : (xd != yd) = true := bne_iff_ne.2 g3
              have t4 : (xd == yd) = false := beq_eq_false_iff_ne.2 g3
              have HF := Lib.hid (decide_eq_false (fun h => g3 (congrArg EntS.data (HEQ.out h))))
              clear g1 g2 g3 HEQ HTK HQ
              go_wp2_with fail
              go_quiet (fail)
              go_wp2_with fail
              go_ret
              exact ⟨bool_ret HF.out.symm, _, World.drewN_drewN _ _ _⟩
          · have t2 : (xt != yt) = true := bne_iff_ne.2 g2
            have HF := Lib.hid (decide_eq_false (fun h => g2 (congrArg EntS.term (HEQ.out h))))
            clear g1 g2 HEQ HTK HQ hcv1 hcv2
            go_wp2_with fail
            go_quiet (fail)
            go_wp2_with fail
            go_ret
            exact ⟨bool_ret HF.out.symm, _, World.drewN_drewN _ _ _⟩
        · have t1 : (xi != yi) = true := bne_iff_ne.2 g1
          have HF := Lib.hid (decide_eq_false (fun h => g1 (congrArg EntS.index (HEQ.out h))))
          clear g1 HEQ HTK HQ hcv1 hcv2
          go_wp2_with fail
          go_quiet (fail)
          go_wp2_with fail
          go_ret
          exact ⟨bool_ret HF.out.symm, _, World.drewN_drewN _ _ _⟩
      · obtain rfl : k = xs.length := by omega
        have HF := Lib.hid (decide_eq_true (show xs = ys by
          have h := HQ.out
          rw [List.take_length, HLN.out, List.take_length] at h
          exact h))
        clear hlt HQ HW
        go_wp2_with fail
        go_ret
        exact ⟨bool_ret HF.out.symm, _, rfl⟩
  · have hne : ((xs.length : Int) != (ys.length : Int)) = true := bne_iff_ne.2 (by omega)
    have HF := Lib.hid (decide_eq_false (fun h : xs = ys => hlen (by rw [h])))
    clear hlen
    go_enter Try.func53, Try.ntmps53
    go_wp2_with fail
    go_ret
    exact ⟨bool_ret HF.out.symm, 0, rfl⟩

/-- A message's cells, field by field: what a comparison asks. -/
theorem eqL_dec (xs ys : List Int) : eqL xs ys = decide (xs = ys) := by rw [Bool.eq_iff_iff, eqL_iff, decide_eq_true_eq]

set_option maxRecDepth 1000000 in
set_option maxHeartbeats 16000000 in
theorem same_calls (w : World) (S T : Nat → Prop) (v u : Value) (x y : MsgS) (h1 : MsgV w S v x) (h2 : MsgV w T u y) :
    Calls Try.prog 16 #[v, u] w fun e w' => e = .returned (.bool (decide (x = y))) ∧ Ext w w' := by
  obtain ⟨Ae, ce, Av, cv, Ad, cd, rfl, e1, v1, d1, -⟩ := h1.form
  obtain ⟨Be, de, Bv, dv, Bd, dd, rfl, e2, v2, d2, -⟩ := h2.form
  have HE1 := Lib.hid e1
  have HE2 := Lib.hid e2
  have HV1 := Lib.hid v1
  have HV2 := Lib.hid v2
  have HD1 := Lib.hid d1
  have HD2 := Lib.hid d2
  clear h1 h2 e1 e2 v1 v2 d1 d2
  obtain ⟨xk, xf, xt, xm, xi, xl, xc, xr, xy, xd, xe, xv, xb⟩ := x
  obtain ⟨yk, yf, yt, ym, yi, yl, yc, yr, yy, yd, ye, yv, yb⟩ := y
  dsimp only [msgC] at HE1 HE2 HV1 HV2 HD1 HD2 ⊢
  by_cases g0 : xk = yk
  · by_cases g1 : xf = yf
    · by_cases g2 : xt = yt
      · by_cases g3 : xm = ym
        · by_cases g4 : xi = yi
          · by_cases g5 : xl = yl
            · by_cases g6 : xc = yc
              · by_cases g7 : xr = yr
                · by_cases g8 : xy = yy
                  · by_cases g9 : xd = yd
                    · have t0 : (xk == yk) = true := by rw [g0]; simp
                      have t1 : (xf == yf) = true := by rw [g1]; simp
                      have t2 : (xt == yt) = true := by rw [g2]; simp
                      have t3 : (xm == ym) = true := by rw [g3]; simp
                      have t4 : (xi == yi) = true := by rw [g4]; simp
                      have t5 : (xl == yl) = true := by rw [g5]; simp
                      have t6 : (xc == yc) = true := by rw [g6]; simp
                      have t7 : (xr == yr) = true := by rw [g7]; simp
                      have t8 : (xy == yy) = true := by rw [g8]; simp
                      have t9 : (xd == yd) = true := by rw [g9]; simp
                      have HEQ := Lib.hid (show ((⟨xk, xf, xt, xm, xi, xl, xc, xr, xy, xd, xe, xv, xb⟩ : MsgS) = ⟨yk, yf, yt, ym, yi, yl, yc, yr, yy, yd, ye, yv, yb⟩) ↔ xe = ye ∧ xv = yv ∧ xb = yb by rw [g0, g1, g2, g3, g4, g5, g6, g7, g8, g9]; simp)
                      clear g0 g1 g2 g3 g4 g5 g6 g7 g8 g9
                      go_enter Try.func16, Try.ntmps16
                      go_wp2_with fail
                      refine (Same_calls _ S T _ _ _ _ ((HE1.out.alloc _).alloc _) ((HE2.out.alloc _).alloc _)).mono ?_
                      rintro e w1 ⟨rfl, n1, rfl⟩
                      by_cases g1 : xe = ye
                      · rw [decide_eq_true g1]
                        go_wp2_with fail
                        refine (EqualI_calls _ S T _ _ _ _ ((((HV1.out.alloc _).alloc _).drewN _)) ((((HV2.out.alloc _).alloc _).drewN _))).mono ?_
                        rintro e w2 ⟨rfl, n2, rfl⟩
                        rw [eqL_dec]
                        by_cases g2 : xv = yv
                        · rw [decide_eq_true g2]
                          go_wp2_with fail
                          refine (Equal_calls _ S T _ _ _ _ ((((HD1.out.alloc _).alloc _).drewN _)) ((((HD2.out.alloc _).alloc _).drewN _))).mono ?_
                          rintro e w3 ⟨rfl, rfl⟩
                          have HB := Lib.hid (show (xb == yb) = decide ((⟨xk, xf, xt, xm, xi, xl, xc, xr, xy, xd, xe, xv, xb⟩ : MsgS) = ⟨yk, yf, yt, ym, yi, yl, yc, yr, yy, yd, ye, yv, yb⟩) by
                            rw [Bool.eq_iff_iff, decide_eq_true_eq, beq_iff_eq, HEQ.out]
                            exact ⟨fun h => ⟨g1, g2, h⟩, fun h => h.2.2⟩)
                          rw [HB.out]
                          clear g1 g2
                          generalize hbb : decide ((⟨xk, xf, xt, xm, xi, xl, xc, xr, xy, xd, xe, xv, xb⟩ : MsgS) = ⟨yk, yf, yt, ym, yi, yl, yc, yr, yy, yd, ye, yv, yb⟩) = bb
                          have HBB := Lib.hid hbb
                          clear hbb
                          go_wp2_with fail
                          go_ret
                          exact ⟨bool_ret HBB.out.symm, (((Ext.refl w).alloc _).alloc _).drewN _⟩
                        · rw [decide_eq_false g2]
                          have HF := Lib.hid (show decide ((⟨xk, xf, xt, xm, xi, xl, xc, xr, xy, xd, xe, xv, xb⟩ : MsgS) = ⟨yk, yf, yt, ym, yi, yl, yc, yr, yy, yd, ye, yv, yb⟩) = false from decide_eq_false (fun h => g2 (HEQ.out.1 h).2.1))
                          clear g1 g2
                          go_wp2_with fail
                          go_ret
                          exact ⟨bool_ret HF.out.symm, (((Ext.refl w).alloc _).alloc _).drewN _⟩
                      · rw [decide_eq_false g1]
                        have HF := Lib.hid (show decide ((⟨xk, xf, xt, xm, xi, xl, xc, xr, xy, xd, xe, xv, xb⟩ : MsgS) = ⟨yk, yf, yt, ym, yi, yl, yc, yr, yy, yd, ye, yv, yb⟩) = false from decide_eq_false (fun h => g1 (HEQ.out.1 h).1))
                        clear g1
                        go_wp2_with fail
                        go_ret
                        exact ⟨bool_ret HF.out.symm, (((Ext.refl w).alloc _).alloc _).drewN _⟩
                    · have t0 : (xk == yk) = true := by rw [g0]; simp
                      have t1 : (xf == yf) = true := by rw [g1]; simp
                      have t2 : (xt == yt) = true := by rw [g2]; simp
                      have t3 : (xm == ym) = true := by rw [g3]; simp
                      have t4 : (xi == yi) = true := by rw [g4]; simp
                      have t5 : (xl == yl) = true := by rw [g5]; simp
                      have t6 : (xc == yc) = true := by rw [g6]; simp
                      have t7 : (xr == yr) = true := by rw [g7]; simp
                      have t8 : (xy == yy) = true := by rw [g8]; simp
                      have t9 : (xd == yd) = false := beq_eq_false_iff_ne.2 g9
                      have HF := Lib.hid (show decide ((⟨xk, xf, xt, xm, xi, xl, xc, xr, xy, xd, xe, xv, xb⟩ : MsgS) = ⟨yk, yf, yt, ym, yi, yl, yc, yr, yy, yd, ye, yv, yb⟩) = false from decide_eq_false (fun h => g9 (congrArg MsgS.done h)))
                      clear g0 g1 g2 g3 g4 g5 g6 g7 g8 g9 HE1 HE2 HV1 HV2 HD1 HD2
                      go_enter Try.func16, Try.ntmps16
                      go_wp2_with fail
                      go_ret
                      exact ⟨bool_ret HF.out.symm, ((Ext.refl w).alloc _).alloc _⟩
                  · have t0 : (xk == yk) = true := by rw [g0]; simp
                    have t1 : (xf == yf) = true := by rw [g1]; simp
                    have t2 : (xt == yt) = true := by rw [g2]; simp
                    have t3 : (xm == ym) = true := by rw [g3]; simp
                    have t4 : (xi == yi) = true := by rw [g4]; simp
                    have t5 : (xl == yl) = true := by rw [g5]; simp
                    have t6 : (xc == yc) = true := by rw [g6]; simp
                    have t7 : (xr == yr) = true := by rw [g7]; simp
                    have t8 : (xy == yy) = false := beq_eq_false_iff_ne.2 g8
                    have HF := Lib.hid (show decide ((⟨xk, xf, xt, xm, xi, xl, xc, xr, xy, xd, xe, xv, xb⟩ : MsgS) = ⟨yk, yf, yt, ym, yi, yl, yc, yr, yy, yd, ye, yv, yb⟩) = false from decide_eq_false (fun h => g8 (congrArg MsgS.yes h)))
                    clear g0 g1 g2 g3 g4 g5 g6 g7 g8 HE1 HE2 HV1 HV2 HD1 HD2
                    go_enter Try.func16, Try.ntmps16
                    go_wp2_with fail
                    go_ret
                    exact ⟨bool_ret HF.out.symm, ((Ext.refl w).alloc _).alloc _⟩
                · have t0 : (xk == yk) = true := by rw [g0]; simp
                  have t1 : (xf == yf) = true := by rw [g1]; simp
                  have t2 : (xt == yt) = true := by rw [g2]; simp
                  have t3 : (xm == ym) = true := by rw [g3]; simp
                  have t4 : (xi == yi) = true := by rw [g4]; simp
                  have t5 : (xl == yl) = true := by rw [g5]; simp
                  have t6 : (xc == yc) = true := by rw [g6]; simp
                  have t7 : (xr == yr) = false := beq_eq_false_iff_ne.2 g7
                  have HF := Lib.hid (show decide ((⟨xk, xf, xt, xm, xi, xl, xc, xr, xy, xd, xe, xv, xb⟩ : MsgS) = ⟨yk, yf, yt, ym, yi, yl, yc, yr, yy, yd, ye, yv, yb⟩) = false from decide_eq_false (fun h => g7 (congrArg MsgS.round h)))
                  clear g0 g1 g2 g3 g4 g5 g6 g7 HE1 HE2 HV1 HV2 HD1 HD2
                  go_enter Try.func16, Try.ntmps16
                  go_wp2_with fail
                  go_ret
                  exact ⟨bool_ret HF.out.symm, ((Ext.refl w).alloc _).alloc _⟩
              · have t0 : (xk == yk) = true := by rw [g0]; simp
                have t1 : (xf == yf) = true := by rw [g1]; simp
                have t2 : (xt == yt) = true := by rw [g2]; simp
                have t3 : (xm == ym) = true := by rw [g3]; simp
                have t4 : (xi == yi) = true := by rw [g4]; simp
                have t5 : (xl == yl) = true := by rw [g5]; simp
                have t6 : (xc == yc) = false := beq_eq_false_iff_ne.2 g6
                have HF := Lib.hid (show decide ((⟨xk, xf, xt, xm, xi, xl, xc, xr, xy, xd, xe, xv, xb⟩ : MsgS) = ⟨yk, yf, yt, ym, yi, yl, yc, yr, yy, yd, ye, yv, yb⟩) = false from decide_eq_false (fun h => g6 (congrArg MsgS.commit h)))
                clear g0 g1 g2 g3 g4 g5 g6 HE1 HE2 HV1 HV2 HD1 HD2
                go_enter Try.func16, Try.ntmps16
                go_wp2_with fail
                go_ret
                exact ⟨bool_ret HF.out.symm, ((Ext.refl w).alloc _).alloc _⟩
            · have t0 : (xk == yk) = true := by rw [g0]; simp
              have t1 : (xf == yf) = true := by rw [g1]; simp
              have t2 : (xt == yt) = true := by rw [g2]; simp
              have t3 : (xm == ym) = true := by rw [g3]; simp
              have t4 : (xi == yi) = true := by rw [g4]; simp
              have t5 : (xl == yl) = false := beq_eq_false_iff_ne.2 g5
              have HF := Lib.hid (show decide ((⟨xk, xf, xt, xm, xi, xl, xc, xr, xy, xd, xe, xv, xb⟩ : MsgS) = ⟨yk, yf, yt, ym, yi, yl, yc, yr, yy, yd, ye, yv, yb⟩) = false from decide_eq_false (fun h => g5 (congrArg MsgS.logTerm h)))
              clear g0 g1 g2 g3 g4 g5 HE1 HE2 HV1 HV2 HD1 HD2
              go_enter Try.func16, Try.ntmps16
              go_wp2_with fail
              go_ret
              exact ⟨bool_ret HF.out.symm, ((Ext.refl w).alloc _).alloc _⟩
          · have t0 : (xk == yk) = true := by rw [g0]; simp
            have t1 : (xf == yf) = true := by rw [g1]; simp
            have t2 : (xt == yt) = true := by rw [g2]; simp
            have t3 : (xm == ym) = true := by rw [g3]; simp
            have t4 : (xi == yi) = false := beq_eq_false_iff_ne.2 g4
            have HF := Lib.hid (show decide ((⟨xk, xf, xt, xm, xi, xl, xc, xr, xy, xd, xe, xv, xb⟩ : MsgS) = ⟨yk, yf, yt, ym, yi, yl, yc, yr, yy, yd, ye, yv, yb⟩) = false from decide_eq_false (fun h => g4 (congrArg MsgS.index h)))
            clear g0 g1 g2 g3 g4 HE1 HE2 HV1 HV2 HD1 HD2
            go_enter Try.func16, Try.ntmps16
            go_wp2_with fail
            go_ret
            exact ⟨bool_ret HF.out.symm, ((Ext.refl w).alloc _).alloc _⟩
        · have t0 : (xk == yk) = true := by rw [g0]; simp
          have t1 : (xf == yf) = true := by rw [g1]; simp
          have t2 : (xt == yt) = true := by rw [g2]; simp
          have t3 : (xm == ym) = false := beq_eq_false_iff_ne.2 g3
          have HF := Lib.hid (show decide ((⟨xk, xf, xt, xm, xi, xl, xc, xr, xy, xd, xe, xv, xb⟩ : MsgS) = ⟨yk, yf, yt, ym, yi, yl, yc, yr, yy, yd, ye, yv, yb⟩) = false from decide_eq_false (fun h => g3 (congrArg MsgS.term h)))
          clear g0 g1 g2 g3 HE1 HE2 HV1 HV2 HD1 HD2
          go_enter Try.func16, Try.ntmps16
          go_wp2_with fail
          go_ret
          exact ⟨bool_ret HF.out.symm, ((Ext.refl w).alloc _).alloc _⟩
      · have t0 : (xk == yk) = true := by rw [g0]; simp
        have t1 : (xf == yf) = true := by rw [g1]; simp
        have t2 : (xt == yt) = false := beq_eq_false_iff_ne.2 g2
        have HF := Lib.hid (show decide ((⟨xk, xf, xt, xm, xi, xl, xc, xr, xy, xd, xe, xv, xb⟩ : MsgS) = ⟨yk, yf, yt, ym, yi, yl, yc, yr, yy, yd, ye, yv, yb⟩) = false from decide_eq_false (fun h => g2 (congrArg MsgS.to_ h)))
        clear g0 g1 g2 HE1 HE2 HV1 HV2 HD1 HD2
        go_enter Try.func16, Try.ntmps16
        go_wp2_with fail
        go_ret
        exact ⟨bool_ret HF.out.symm, ((Ext.refl w).alloc _).alloc _⟩
    · have t0 : (xk == yk) = true := by rw [g0]; simp
      have t1 : (xf == yf) = false := beq_eq_false_iff_ne.2 g1
      have HF := Lib.hid (show decide ((⟨xk, xf, xt, xm, xi, xl, xc, xr, xy, xd, xe, xv, xb⟩ : MsgS) = ⟨yk, yf, yt, ym, yi, yl, yc, yr, yy, yd, ye, yv, yb⟩) = false from decide_eq_false (fun h => g1 (congrArg MsgS.from_ h)))
      clear g0 g1 HE1 HE2 HV1 HV2 HD1 HD2
      go_enter Try.func16, Try.ntmps16
      go_wp2_with fail
      go_ret
      exact ⟨bool_ret HF.out.symm, ((Ext.refl w).alloc _).alloc _⟩
  · have t0 : (xk == yk) = false := beq_eq_false_iff_ne.2 g0
    have HF := Lib.hid (show decide ((⟨xk, xf, xt, xm, xi, xl, xc, xr, xy, xd, xe, xv, xb⟩ : MsgS) = ⟨yk, yf, yt, ym, yi, yl, yc, yr, yy, yd, ye, yv, yb⟩) = false from decide_eq_false (fun h => g0 (congrArg MsgS.kind h)))
    clear g0 HE1 HE2 HV1 HV2 HD1 HD2
    go_enter Try.func16, Try.ntmps16
    go_wp2_with fail
    go_ret
    exact ⟨bool_ret HF.out.symm, ((Ext.refl w).alloc _).alloc _⟩
end Go.Proofs.Ytfflcnlgkbgbhaa
set_option linter.unusedVariables false
set_option linter.unusedSimpArgs false
namespace Go.Proofs.Ytfflcnlgkbgbhaa
open Go.RowKit

structure BagS where
  ms : List MsgS
  ids : List Int
  last : Int
def bag0 : BagS := ⟨[], [], 0⟩
def BagS.at_ (s : BagS) (id : Int) : Int := idxI s.ids id
def BagS.peek (s : BagS) (id : Int) : MsgS × Nat := if s.at_ id < 0 then (zeroM, 130) else (s.ms.getD (s.at_ id).toNat zeroM, 0)
def BagS.lose (s : BagS) (id : Int) : BagS × Nat := if s.at_ id < 0 then (s, 130) else (⟨s.ms.eraseIdx (s.at_ id).toNat, s.ids.eraseIdx (s.at_ id).toNat, s.last⟩, 0)
def BagS.step (a : BagS × Nat) (m : MsgS) : BagS × Nat := if chkM m = true ∧ a.1.ms.length < 256 then (⟨a.1.ms ++ [m], a.1.ids ++ [a.1.last + 1], a.1.last + 1⟩, a.2 + 1) else a
def BagS.send (s : BagS) (l : List MsgS) : BagS × Nat := l.foldl BagS.step (s, 0)
def BagS.double (s : BagS) (id : Int) : BagS × Nat := if (s.peek id).2 ≠ 0 then (s, (s.peek id).2) else ((s.send [(s.peek id).1]).1, if (s.send [(s.peek id).1]).2 = 0 then 7 else 0)

/-- What holds of every bag. -/
structure BagOk (s : BagS) : Prop where
  len : s.ids.length = s.ms.length
  le : s.ms.length ≤ 256
  chk : ∀ m ∈ s.ms, chkM m = true
  lo : 0 ≤ s.last
  ids : ∀ i ∈ s.ids, 1 ≤ i ∧ i ≤ s.last

theorem bag0_ok : BagOk bag0 := ⟨rfl, by simp [bag0], (fun m hm => by cases hm), by simp [bag0], (fun i hi => by cases hi)⟩
theorem send_nil (s : BagS) : s.send [] = (s, 0) := rfl
theorem send_snoc (s : BagS) (l : List MsgS) (m : MsgS) : s.send (l ++ [m]) = BagS.step (s.send l) m := by
  unfold BagS.send; rw [List.foldl_append]; rfl
theorem send_take (s : BagS) (l : List MsgS) (k : Nat) (hk : k < l.length) : s.send (l.take (k + 1)) = BagS.step (s.send (l.take k)) l[k] := by
  rw [List.take_succ_eq_append_getElem hk, send_snoc]
theorem step_ok {a : BagS × Nat} (h : BagOk a.1) (m : MsgS) : BagOk (BagS.step a m).1 := by
  unfold BagS.step
  split
  · rename_i hc
    refine ⟨by simp [h.len], by simp; omega, fun x hx => ?_, by have := h.lo; show 0 ≤ a.1.last + 1; omega, fun i hi => ?_⟩
    · rcases List.mem_append.1 hx with h1 | h1
      · exact h.chk x h1
      · rw [List.mem_singleton.1 h1]; exact hc.1
    · show 1 ≤ i ∧ i ≤ a.1.last + 1
      have := h.lo
      rcases List.mem_append.1 hi with h1 | h1
      · have := h.ids i h1; omega
      · rw [List.mem_singleton.1 h1]; omega
  · exact h
theorem fold_ok : ∀ (l : List MsgS) (a : BagS × Nat), BagOk a.1 → BagOk (l.foldl BagS.step a).1
  | [], _, h => h
  | m :: l, a, h => fold_ok l _ (step_ok h m)
theorem send_ok {s : BagS} (h : BagOk s) (l : List MsgS) : BagOk (s.send l).1 := fold_ok l _ h
theorem fold_last : ∀ (l : List MsgS) (a : BagS × Nat), (l.foldl BagS.step a).1.last - ((l.foldl BagS.step a).2 : Int) = a.1.last - (a.2 : Int) ∧ (l.foldl BagS.step a).2 ≤ a.2 + l.length
  | [], _ => ⟨rfl, Nat.le_refl _⟩
  | m :: l, a => by
    obtain ⟨h1, h2⟩ := fold_last l (BagS.step a m)
    rw [List.foldl_cons, List.length_cons, h1]
    have h3 : (BagS.step a m).1.last - ((BagS.step a m).2 : Int) = a.1.last - (a.2 : Int) ∧ (BagS.step a m).2 ≤ a.2 + 1 := by
      unfold BagS.step
      split
      · show a.1.last + 1 - ((a.2 + 1 : Nat) : Int) = _ ∧ a.2 + 1 ≤ a.2 + 1
        omega
      · omega
    exact ⟨h3.1, by omega⟩
theorem send_last (s : BagS) (l : List MsgS) : (s.send l).1.last = s.last + ((s.send l).2 : Int) ∧ (s.send l).2 ≤ l.length := by
  obtain ⟨h1, h2⟩ := fold_last l (s, 0)
  unfold BagS.send
  simp only [Int.natCast_zero, Int.sub_zero, Nat.zero_add] at h1 h2
  exact ⟨by omega, h2⟩
theorem idxI_cases (l : List Int) (n : Int) : idxI l n = -1 ∨ ∃ i : Nat, idxI l n = (i : Int) ∧ i < l.length := by
  have h := idxI_bd l n
  by_cases h0 : idxI l n < 0
  · exact .inl (by omega)
  · exact .inr ⟨(idxI l n).toNat, by omega, by omega⟩
theorem at_lt {s : BagS} (id : Int) (h : BagOk s) : s.at_ id = -1 ∨ ∃ i : Nat, s.at_ id = (i : Int) ∧ i < s.ids.length ∧ i < s.ms.length := by
  have h1 := h.len
  unfold BagS.at_
  rcases idxI_cases s.ids id with h2 | ⟨i, h2, h3⟩
  · exact .inl h2
  · exact .inr ⟨i, h2, h3, by omega⟩
theorem lose_ok {s : BagS} (h : BagOk s) (id : Int) : BagOk (s.lose id).1 := by
  unfold BagS.lose
  split
  · exact h
  · refine ⟨by have := h.len; simp [List.length_eraseIdx, this], by have := h.le; have := List.length_eraseIdx_le s.ms (s.at_ id).toNat; show (s.ms.eraseIdx _).length ≤ 256; omega, fun m hm => h.chk m (List.mem_of_mem_eraseIdx hm), h.lo, fun i hi => h.ids i (List.mem_of_mem_eraseIdx hi)⟩
theorem double_ok {s : BagS} (h : BagOk s) (id : Int) : BagOk (s.double id).1 := by
  unfold BagS.double
  split
  · exact h
  · exact send_ok h _
theorem BagOk.i64 {s : BagS} (h : BagOk s) (hl : s.last ≤ 4611686018427387904) : ∀ i ∈ s.ids, I64 i := fun i hi => by
  have := h.ids i hi
  exact ⟨by omega, by omega⟩
end Go.Proofs.Ytfflcnlgkbgbhaa
set_option linter.unusedVariables false
set_option linter.unusedSimpArgs false
namespace Go.Proofs.Ytfflcnlgkbgbhaa
open Go.RowKit

theorem Ow.down {e : TypeId} {w w1 w' : World} {u : Value} {xs : List UInt8} (ho : Ow kByte e w' w1.heap.size (w1.heap.size ≤ ·) u xs) (he : Ext w w1) : Ow kByte e w' w.heap.size (w.heap.size ≤ ·) u xs :=
  (ho.lower he.le).mono fun b hb => Nat.le_trans he.le hb
theorem msgNums_len (m : MsgS) : (msgNums m).length = 8 := rfl
theorem msgNums_I64 {m : MsgS} (h : MsgI m) (k : Nat) (hk : k < 8) : I64 ((msgNums m)[k]'(by rw [msgNums_len]; exact hk)) := by
  match k, hk with
  | 0, _ => exact h.kind
  | 1, _ => exact h.from_
  | 2, _ => exact h.to_
  | 3, _ => exact h.term
  | 4, _ => exact h.index
  | 5, _ => exact h.logTerm
  | 6, _ => exact h.commit
  | 7, _ => exact h.round
theorem msgC_num (m : MsgS) (ve vv vd : Value) (k : Nat) (hk : k < 8) : (msgC m ve vv vd)[k]? = some (.int .i64 ((msgNums m)[k]'(by rw [msgNums_len]; exact hk))) := by
  match k, hk with
  | 0, _ => rfl
  | 1, _ => rfl
  | 2, _ => rfl
  | 3, _ => rfl
  | 4, _ => rfl
  | 5, _ => rfl
  | 6, _ => rfl
  | 7, _ => rfl
theorem encNums_take_succ (l : List Int) (k : Nat) (hk : k < l.length) : encNums (l.take (k + 1)) = encNums (l.take k) ++ digs (l[k]).toNat := by
  rw [List.take_succ_eq_append_getElem hk, encNums_snoc]
theorem encEnts_take_succ (l : List EntS) (k : Nat) (hk : k < l.length) : encEnts (l.take (k + 1)) = encEnts (l.take k) ++ digs (l[k]).term.toNat ++ digs (l[k]).data.length ++ (l[k]).data := by
  rw [List.take_succ_eq_append_getElem hk, encEnts_snoc]
theorem chk_le7' {l : List Int} (h : chk l = true) : l.length ≤ 7 := chk_le7 h
theorem Rs.ints_I64' {w : World} {S : Nat → Prop} {v : Value} {xs : List Int} (h : Rs kInt w S v xs) : ∀ x ∈ xs, I64 x := by
  obtain ⟨A, c, rfl, _, _, _, hr⟩ := h
  intro x hx
  obtain ⟨j, hj, rfl⟩ := List.getElem_of_mem hx
  obtain ⟨_, _, _, h⟩ := hr.int hj
  exact h

set_option maxRecDepth 1000000 in
set_option maxHeartbeats 8000000 in
theorem Put_calls (w : World) (S : Nat → Prop) (v : Value) (m : MsgS) (hm : MsgV w S v m) :
    Calls Try.prog 13 #[v] w fun e w' => ∃ u, e = .returned (.tuple #[u, .int .i64 ((putM m).2 : Int)]) ∧ Ow kByte 5 w' w.heap.size (w.heap.size ≤ ·) u (putM m).1 ∧ Ext w w' := by
  have HM := Lib.hid hm.under
  obtain ⟨Ae, ce, Av, cv, Ad, cd, rfl, he, hv, hd, hi⟩ := hm.under.form
  clear hm
  have HI := Lib.hid hi
  have HEs := Lib.hid he
  have HVs := Lib.hid hv
  have HDs := Lib.hid hd
  obtain ⟨-, hec, hec2, hez, -⟩ := he.shape
  obtain ⟨-, hvc, hvc2, hvz, -⟩ := hv.shape
  obtain ⟨-, hdc, hdc2, hdz, -⟩ := hd.shape
  clear he hv hd hi
  dsimp only [msgC] at HM ⊢
  go_enter Try.func13, Try.ntmps13
  go_wp2_with fail
  have HB1 := Lib.hid (heap_new w _ rfl (.cells (msgC m (.slice Ae m.entries.length ce) (.slice Av m.voters.length cv) (.slice Ad m.data.length cd)) 26))
  refine (MCheck_calls _ _ _ m (HM.out.ext ((Ext.refl w).alloc (.cells (msgC m (.slice Ae m.entries.length ce) (.slice Av m.voters.length cv) (.slice Ad m.data.length cd)) 26)))).mono ?_
  rintro e w2 ⟨rfl, hx⟩
  have HX2 := Lib.hid (((Ext.refl w).alloc (.cells (msgC m (.slice Ae m.entries.length ce) (.slice Av m.voters.length cv) (.slice Ad m.data.length cd)) 26)).trans hx)
  have HB2 := Lib.hid (blk_ext HB1.out hx)
  clear hx HB1
  cases hck : chkM m
  · have HF := Lib.hid (chkME_no hck)
    have HP := Lib.hid (show putM m = ([], 122) by unfold putM; rw [hck]; rfl)
    clear hck
    rw [HF.out]
    go_wp2_with fail
    go_ret2
    rw [HP.out]
    exact ⟨_, rfl, Ow.nil _ _ _ _ _, HX2.out⟩
  · have HF := Lib.hid (chkME_yes hck)
    have HP := Lib.hid (show putM m = record (encM m) by unfold putM; rw [hck]; rfl)
    have HC := Lib.hid (chkM_iff hck)
    clear hck
    rw [HF.out]
    have h8 : m.entries.length ≤ 8 := HC.out.len
    have h512 : m.data.length ≤ 512 := HC.out.dlen
    have h7 : m.voters.length ≤ 7 := by
      by_cases hk : m.kind = 5
      · exact chk_le7' (HC.out.v5 hk)
      · rw [HC.out.v0 hk]; simp
    have HVI := Lib.hid HVs.out.ints_I64'
    go_wp2_with fail
    refine (numbers_calls _ w.heap.size).mono ?_
    rintro e w3 ⟨g, rfl, hgl, hgb, hx⟩
    have HG := Lib.hid hgb
    have HX3 := Lib.hid hx
    clear hgb hx
    go_wp2_with fail
    go_loopw [5, 19] (fun u i wr => ∃ k : Nat, k ≤ 8 ∧ i = .int .i64 k ∧ Hid (Ow kByte 5 wr w.heap.size (w.heap.size ≤ ·) u (encNums ((msgNums m).take k))) ∧ Hid (Ext w2 wr) ∧ Hid (wr.heap[g]? = some (.cells (ptrs w.heap.size 8) 78 (0, 0)))) (fun _ i _ => 8 - (intOf i).toNat)
    case atStart => exact ⟨0, by omega, rfl, Lib.hid (Ow.nil _ _ _ _ _), HX3, HG⟩
    case round =>
      clear HX3 HG
      obtain ⟨k, hk, rfl, HO, HX3, HG⟩ := hrel
      by_cases hlt : k < 8
      · have hcp : wr.cell? ⟨g, k, none⟩ = some (.pointer (some ⟨w.heap.size, k, none⟩)) := (cell_blk HG.out k).trans (ptrs_at _ _ _ hlt)
        have hcm : wr.cell? ⟨w.heap.size, k, none⟩ = some (.int .i64 ((msgNums m)[k]'(by rw [msgNums_len]; exact hlt))) := (cell_blk (blk_ext HB2.out HX3.out) k).trans (msgC_num _ _ _ _ k hlt)
        have HXI := Lib.hid (msgNums_I64 HI.out k hlt)
        have HS := Lib.hid (encNums_take_succ (msgNums m) k (by rw [msgNums_len]; exact hlt))
        have HLN := Lib.hid (encNums_len ((msgNums m).take k) (fun n hn => by
          obtain ⟨j, hj, rfl⟩ := List.getElem_of_mem (List.mem_of_mem_take hn)
          exact (msgNums_I64 HI.out j (by rw [msgNums_len] at hj; exact hj)).2))
        generalize (msgNums m)[k]'(by rw [msgNums_len]; exact hlt) = x at hcm HXI HS
        go_wp2_with fail
        refine (Number_calls _ _ _ _ x HO.out.rs HXI.out (by have := HLN.out; rw [List.length_take] at this; omega)).mono ?_
        rintro e w3 ⟨u3, rfl, ho, hx⟩
        have HO3 := Lib.hid (show Ow kByte 5 w3 w.heap.size (w.heap.size ≤ ·) u3 (encNums ((msgNums m).take (k + 1))) from by
          rw [HS.out]
          exact (ho.lower (HX2.out.trans HX3.out).le).mono fun b hb => Nat.le_trans (HX2.out.trans HX3.out).le hb)
        have HX4 := Lib.hid (HX3.out.trans hx)
        have HG4 := Lib.hid (blk_ext HG.out hx)
        clear ho hx
        go_wp2_with fail
        go_roundw
        case rel => exact ⟨k + 1, by omega, by go_num, HO3, HX4, HG4⟩
        case measure => simp [intOf]; omega
      · obtain rfl : k = 8 := by omega
        clear hlt
        have ho0 := HO.out
        rw [List.take_of_length_le (show (msgNums m).length ≤ 8 from Nat.le_refl _)] at ho0
        have HO0 := Lib.hid ho0
        have HB := Lib.hid (blk_ext HB2.out HX3.out)
        have HXA := Lib.hid (HX2.out.trans HX3.out)
        have HLEN := Lib.hid (show (encNums (msgNums m)).length ≤ 72 from by
          have := encNums_len (msgNums m) (fun n hn => by
            obtain ⟨j, hj, rfl⟩ := List.getElem_of_mem hn
            exact (msgNums_I64 HI.out j (by rw [msgNums_len] at hj; exact hj)).2)
          rw [msgNums_len] at this; omega)
        clear ho0 HO HX3 HB2 HX2 HG
        obtain ⟨wb, rfl⟩ : ∃ wb : World, wb = wr := ⟨_, rfl⟩
        have HLD := Lib.hid (show ∀ W, Ext wb W → W.cell? ⟨w.heap.size, 8, none⟩ = some (.bool m.yes) ∧ W.cell? ⟨w.heap.size, 9, none⟩ = some (.bool m.done) from fun W h => ⟨cell_blk (blk_ext HB.out h) 8, cell_blk (blk_ext HB.out h) 9⟩)
        have HL0 := Lib.hid (show (encNums (msgNums m)).length + 9 ≤ 140737488355328 by have := HLEN.out; omega)
        have HL1 := Lib.hid (show (encNums (msgNums m) ++ digs m.yes.toNat).length + 9 ≤ 140737488355328 by
          have := HLEN.out; have := digs_len m.yes.toNat (by cases m.yes <;> decide); rw [List.length_append]; omega)
        go_wp2_with fail
        go_region_held3 (fun W => Ext wb W ∧ W.cell? ⟨w.heap.size, 8, none⟩ = some (.bool m.yes) ∧ W.cell? ⟨w.heap.size, 9, none⟩ = some (.bool m.done))
          (first | exact ⟨(Ext.refl _).drew, HLD.out _ (Ext.refl _).drew⟩ | exact ⟨hk4, HLD.out _ hk4⟩ | exact ⟨hk5, HLD.out _ hk5⟩)
          (first | (go_at_call 45; (with_reducible refine (Flag_calls _ _ _ _ m.done HO4.out.rs HL1.out).mono ?_); rintro e w5 ⟨u5, rfl, ho5, he5⟩; have hk5 := hk4.trans he5) | (go_at_call 45; refine (Flag_calls _ _ _ _ m.yes HO0.out.rs.drew HL0.out).mono ?_; rintro e w4 ⟨u4, rfl, ho4, he4⟩; have HO4 := Lib.hid ho4; have hk4 := (Ext.refl wb).drew.trans he4))
        have HO5 := Lib.hid (ho5.down (HXA.out.trans hk4))
        have HX5 := Lib.hid (HXA.out.trans hk5)
        have HB5 := Lib.hid (blk_ext HB.out hk5)
        have HY := Lib.hid (show (encNums (msgNums m) ++ digs m.yes.toNat ++ digs m.done.toNat).length ≤ 100 by
          have := HLEN.out; have := digs_len m.yes.toNat (by cases m.yes <;> decide); have := digs_len m.done.toNat (by cases m.done <;> decide); simp only [List.length_append]; omega)
        clear ho4 he4 HO4 hk4 ho5 he5 hk5 HXA HB HO0 HLD HL0 HL1 hgl
        obtain ⟨B1, hB1⟩ : ∃ B1, B1 = encNums (msgNums m) ++ digs m.yes.toNat ++ digs m.done.toNat := ⟨_, rfl⟩
        rw [← hB1] at HO5 HY
        have HB1 := Lib.hid hB1
        clear hB1
        have hc10 := cell_blk HB5.out 10
        simp [msgC] at hc10
        go_wp2_with fail
        refine (Number_calls _ _ _ _ (m.entries.length : Int) HO5.out.rs ⟨by omega, by omega⟩ (by have := HY.out; omega)).mono ?_
        rintro e w6 ⟨u6, rfl, ho, hx⟩
        rw [Int.toNat_natCast] at ho
        have HO6 := Lib.hid (ho.down HX5.out)
        have HX6 := Lib.hid (HX5.out.trans hx)
        have HB6 := Lib.hid (blk_ext HB5.out hx)
        have HY6 := Lib.hid (show (B1 ++ digs m.entries.length).length ≤ 200 by have := HY.out; have := digs_len m.entries.length (by omega); rw [List.length_append]; omega)
        clear ho hx HO5 HX5 HB5 hc10 HY
        obtain ⟨B2, hB2⟩ : ∃ B2, B2 = B1 ++ digs m.entries.length := ⟨_, rfl⟩
        rw [← hB2] at HO6 HY6
        have HB2' := Lib.hid hB2
        clear hB2
        have hc10 := cell_blk HB6.out 10
        simp [msgC] at hc10
        go_wp2_with fail
        go_loopw [5, 44] (fun u i wr => ∃ k : Nat, k ≤ m.entries.length ∧ i = .int .i64 k ∧ Hid (Ow kByte 5 wr w.heap.size (w.heap.size ≤ ·) u (B2 ++ encEnts (m.entries.take k))) ∧ Hid (Ext w6 wr)) (fun _ i _ => m.entries.length - (intOf i).toNat)
        case atStart => exact ⟨0, by omega, rfl, Lib.hid (by simp only [List.take_zero, encEnts, List.append_nil]; exact HO6.out), Lib.hid (Ext.refl _)⟩
        case round =>
          clear HO6
          obtain ⟨k, hk, rfl, HO, HXr⟩ := hrel
          by_cases hlt : k < m.entries.length
          · obtain ⟨ad, Ad2, cd2, hA, hq0, hq1, hq2, hdr, _, hte⟩ := (HEs.out.ext (HX6.out.trans HXr.out)).shape.2.2.2.2.ent hlt
            subst hA
            have hem := entsB_mem HC.out.ents m.entries[k] (List.getElem_mem _)
            have HTE := Lib.hid hte
            have HDR := Lib.hid hdr
            have HS := Lib.hid (encEnts_take_succ m.entries k hlt)
            have HLN := Lib.hid (encEnts_len (m.entries.take k) (fun e he => by
              have h1 := entsB_mem HC.out.ents e (List.mem_of_mem_take he)
              have h2 := (headB_iff.1 HC.out.head)
              exact ⟨by omega, h1.2.2.2.2⟩))
            have HLE := Lib.hid (show (B2 ++ encEnts (m.entries.take k)).length ≤ 40000 from by
              have h1 := HY6.out; have h2 := HLN.out; rw [List.length_take] at h2; rw [List.length_append]; omega)
            obtain ⟨-, -, -, -, hdl⟩ := hem
            clear hdr hte HLN
            generalize m.entries[k] = e at hq0 hq1 hq2 HTE HDR HS hdl
            obtain ⟨ei, et, ed⟩ := e
            dsimp only at hq0 hq1 hq2 HTE HDR HS hdl
            go_wp2_with fail
            obtain ⟨wa, hwa⟩ : ∃ wa, wa = wr.alloc (.cells #[.int .i64 ei, .int .i64 et, .slice Ad2 ed.length cd2] 71) := ⟨_, rfl⟩
            have HQb := Lib.hid (show wa.heap[wr.heap.size]? = some (.cells #[.int .i64 ei, .int .i64 et, .slice Ad2 ed.length cd2] 71 (0, 0)) by rw [hwa]; exact heap_new wr _ rfl _)
            have HXa := Lib.hid (show Ext wr wa by rw [hwa]; exact (Ext.refl wr).alloc _)
            rw [← hwa]
            clear hwa hq0 hq1 hq2
            have HO0 := Lib.hid (HO.out.ext HXa.out)
            have HLD := Lib.hid (show ∀ W, Ext wa W → W.cell? ⟨wr.heap.size, 1, none⟩ = some (.int .i64 et) ∧ W.cell? ⟨wr.heap.size, 2, none⟩ = some (.slice Ad2 ed.length cd2) ∧ (convert 24 9 (.slice Ad2 ed.length cd2)).run Try.prog W = .ok (.string ⟨ed.toArray⟩) W from fun W h => ⟨cell_blk (blk_ext HQb.out h) 1, cell_blk (blk_ext HQb.out h) 2, ((HDR.out.ext HXa.out).ext h).to_string (P := Try.prog) Try.underlying24 tByte tString⟩)
            have HL0 := Lib.hid (show (B2 ++ encEnts (m.entries.take k)).length + 9 ≤ 140737488355328 by have := HLE.out; omega)
            have HL1 := Lib.hid (show (B2 ++ encEnts (m.entries.take k) ++ digs et.toNat).length + 9 + (⟨ed.toArray⟩ : ByteArray).size ≤ 140737488355328 by
              have h1 := HLE.out; have h2 := digs_len et.toNat (by have := HTE.out.2; omega)
              have h3 : (⟨ed.toArray⟩ : ByteArray).size = ed.length := by simp [ByteArray.size]
              rw [List.length_append, h3]; omega)
            go_region_held3 (fun W => Ext wa W ∧ W.cell? ⟨wr.heap.size, 1, none⟩ = some (.int .i64 et) ∧ W.cell? ⟨wr.heap.size, 2, none⟩ = some (.slice Ad2 ed.length cd2) ∧ (convert 24 9 (.slice Ad2 ed.length cd2)).run Try.prog W = .ok (.string ⟨ed.toArray⟩) W)
              (first | exact ⟨(Ext.refl _).drew, HLD.out _ (Ext.refl _).drew⟩ | exact ⟨hk4, HLD.out _ hk4⟩ | exact ⟨hk5, HLD.out _ hk5⟩)
              (first | (go_at_call 46; refine (Text_calls _ _ _ _ ⟨ed.toArray⟩ HO4.out.rs HL1.out).mono ?_; rintro e w5 ⟨u5, rfl, ho5, he5⟩; have hk5 := hk4.trans he5) | (go_at_call 44; refine (Number_calls _ _ _ _ et HO0.out.rs.drew HTE.out HL0.out).mono ?_; rintro e w4 ⟨u4, rfl, ho4, he4⟩; have HO4 := Lib.hid ho4; have hk4 := (Ext.refl wa).drew.trans he4))
            have hsz : (⟨ed.toArray⟩ : ByteArray).size = ed.length := by simp [ByteArray.size]
            have hdt : (⟨ed.toArray⟩ : ByteArray).data.toList = ed := by simp
            (try rw [hsz] at ho5)
            (try rw [hdt] at ho5)
            have HOn := Lib.hid (show Ow kByte 5 w5 w.heap.size (w.heap.size ≤ ·) u5 (B2 ++ encEnts (m.entries.take (k + 1))) from by
              have h := ho5.down ((HX6.out.trans HXr.out).trans (HXa.out.trans hk4))
              rw [HS.out]
              simpa only [List.append_assoc] using h)
            have HXn := Lib.hid (HXr.out.trans (HXa.out.trans hk5))
            clear ho4 he4 HO4 hk4 ho5 he5 hk5 hsz hdt HLD HL0 HL1 HO0 HQb HXa HO HXr HDR
            go_wp2_with fail
            go_roundw
            case rel => exact ⟨k + 1, by omega, by go_num, HOn, HXn⟩
            case measure => simp [intOf]; omega
          · obtain rfl : k = m.entries.length := by omega
            rw [List.take_length] at HO
            have HX7 := Lib.hid (HX6.out.trans HXr.out)
            have HB7 := Lib.hid (blk_ext HB6.out HXr.out)
            have HLE := Lib.hid (show (B2 ++ encEnts m.entries).length ≤ 40000 from by
              have h1 := HY6.out
              have h2 := encEnts_len m.entries (fun e he => by
                have h1 := entsB_mem HC.out.ents e he
                have h2 := (headB_iff.1 HC.out.head)
                exact ⟨by omega, h1.2.2.2.2⟩)
              rw [List.length_append]; omega)
            clear hlt hc10 HX6 HB6 HXr HY6
            obtain ⟨wc, rfl⟩ : ∃ wc : World, wc = wr := ⟨_, rfl⟩
            obtain ⟨B3, hB3⟩ : ∃ B3, B3 = B2 ++ encEnts m.entries := ⟨_, rfl⟩
            rw [← hB3] at HO HLE
            have HB3' := Lib.hid hB3
            clear hB3
            have hc11 := cell_blk HB7.out 11
            simp [msgC] at hc11
            go_wp2_with fail
            refine (Number_calls _ _ _ _ (m.voters.length : Int) HO.out.rs ⟨by omega, by omega⟩ (by have := HLE.out; omega)).mono ?_
            rintro e w8 ⟨u8, rfl, ho, hx⟩
            rw [Int.toNat_natCast] at ho
            have HO8 := Lib.hid (ho.down HX7.out)
            have HX8 := Lib.hid (HX7.out.trans hx)
            have HB8 := Lib.hid (blk_ext HB7.out hx)
            have HY8 := Lib.hid (show (B3 ++ digs m.voters.length).length ≤ 41000 by have := HLE.out; have := digs_len m.voters.length (by omega); rw [List.length_append]; omega)
            clear ho hx HO HX7 HB7 hc11 HLE
            obtain ⟨B4, hB4⟩ : ∃ B4, B4 = B3 ++ digs m.voters.length := ⟨_, rfl⟩
            rw [← hB4] at HO8 HY8
            have HB4' := Lib.hid hB4
            clear hB4
            have hc11 := cell_blk HB8.out 11
            simp [msgC] at hc11
            go_wp2_with fail
            go_loopw [5, 65] (fun u i wr => ∃ k : Nat, k ≤ m.voters.length ∧ i = .int .i64 k ∧ Hid (Ow kByte 5 wr w.heap.size (w.heap.size ≤ ·) u (B4 ++ encNums (m.voters.take k))) ∧ Hid (Ext w8 wr)) (fun _ i _ => m.voters.length - (intOf i).toNat)
            case atStart => exact ⟨0, by omega, rfl, Lib.hid (by simp only [List.take_zero, encNums, List.append_nil]; exact HO8.out), Lib.hid (Ext.refl _)⟩
            case round =>
              clear HO8
              obtain ⟨k, hk, rfl, HO, HXr⟩ := hrel
              have HLE := Lib.hid (show (B4 ++ encNums (m.voters.take k)).length ≤ 42000 from by
                have h1 := HY8.out
                have h2 := encNums_len (m.voters.take k) (fun n hn => (HVI.out n (List.mem_of_mem_take hn)).2)
                rw [List.length_take] at h2; rw [List.length_append]; omega)
              by_cases hlt : k < m.voters.length
              · obtain ⟨ad, hA, hq0, hxi⟩ := (HVs.out.ext (HX8.out.trans HXr.out)).shape.2.2.2.2.int hlt
                subst hA
                have HXI := Lib.hid hxi
                have HS := Lib.hid (encNums_take_succ m.voters k hlt)
                clear hxi
                generalize m.voters[k] = x at hq0 HXI HS
                go_wp2_with fail
                refine (Number_calls _ _ _ _ x HO.out.rs HXI.out (by have := HLE.out; omega)).mono ?_
                rintro e w9 ⟨u9, rfl, ho, hx⟩
                have HOn := Lib.hid (show Ow kByte 5 w9 w.heap.size (w.heap.size ≤ ·) u9 (B4 ++ encNums (m.voters.take (k + 1))) from by
                  have h := ho.down (HX8.out.trans HXr.out)
                  rw [HS.out, ← List.append_assoc]
                  exact h)
                have HXn := Lib.hid (HXr.out.trans hx)
                clear ho hx
                go_wp2_with fail
                go_roundw
                case rel => exact ⟨k + 1, by omega, by go_num, HOn, HXn⟩
                case measure => simp [intOf]; omega
              · obtain rfl : k = m.voters.length := by omega
                rw [List.take_length] at HO HLE
                have HX9 := Lib.hid (HX8.out.trans HXr.out)
                have HB9 := Lib.hid (blk_ext HB8.out HXr.out)
                have hc12 := cell_blk HB9.out 12
                simp [msgC] at hc12
                have hcv := (HDs.out.ext HX9.out).to_string (P := Try.prog) Try.underlying24 tByte tString
                have HSZ := Lib.hid (show (⟨m.data.toArray⟩ : ByteArray).size = m.data.length by simp [ByteArray.size])
                clear hlt hc11 HX8 HB8 HXr HY8
                go_wp2_with fail
                refine (Text_calls _ _ _ _ ⟨m.data.toArray⟩ HO.out.rs (by have := HLE.out; rw [HSZ.out]; omega)).mono ?_
                rintro e wx ⟨ux, rfl, ho, hx⟩
                have hdt : (⟨m.data.toArray⟩ : ByteArray).data.toList = m.data := by simp
                (try rw [HSZ.out] at ho)
                (try rw [hdt] at ho)
                have HEN := Lib.hid (show B4 ++ encNums m.voters ++ digs m.data.length ++ m.data = encM m by
                  rw [HB4'.out, HB3'.out, HB2'.out, HB1.out]; unfold encM; simp only [List.append_assoc])
                rw [HEN.out] at ho
                have HOx := Lib.hid ho.rs
                have HXx := Lib.hid (HX9.out.trans hx)
                clear ho hx hdt hcv hc12
                go_wp2_with fail
                refine (Record_calls _ _ _ (encM m) HOx.out).mono ?_
                rintro e wy ⟨uy, rfl, ho, hx⟩
                have HOy := Lib.hid (ho.down HXx.out)
                have HXy := Lib.hid (HXx.out.trans hx)
                clear ho hx
                go_wp2_with fail
                go_ret2
                rw [HP.out]
                exact ⟨_, rfl, HOy.out, HXy.out⟩
end Go.Proofs.Ytfflcnlgkbgbhaa
set_option linter.unusedVariables false
set_option linter.unusedSimpArgs false
namespace Go.Proofs.Ytfflcnlgkbgbhaa
open Go.RowKit

/-- A parcel: a number and bytes. -/
def kPar : Kd (Int × List UInt8) := Kd.via (fun p => (p.1, p.2, ())) (Kd.pair kInt (Kd.pair (kSlice kByte) Kd.unit))
theorem tPars : ElemT Try.prog 60 96 (.agg #[.int .i64 0, .slice none 0 0]) 2 32 := ⟨Try.underlying60, by kernel_rfl, rfl, by omega, by omega⟩
section
variable {w w' : World} {S S' : Nat → Prop}
theorem kPar_iff {p : Int × List UInt8} {cs : List Value} : kPar.K w S p cs ↔ ∃ vd, cs = [.int .i64 p.1, vd] ∧ Rs kByte w S vd p.2 ∧ I64 p.1 := by
  constructor
  · rintro ⟨_, _, rfl, ⟨rfl, h0⟩, _, _, rfl, ⟨vd, rfl, hd⟩, rfl⟩
    exact ⟨vd, rfl, hd, h0⟩
  · rintro ⟨vd, rfl, hd, h0⟩
    exact ⟨_, _, rfl, ⟨rfl, h0⟩, _, _, rfl, ⟨vd, rfl, hd⟩, rfl⟩
/-- A parcel of a row: its two cells, as a load of the whole asks for them. -/
theorem Row.par {A : Option Addr} {ps : List (Int × List UInt8)} (h : Row kPar w S A ps) {j : Nat} (hj : j < ps.length) : ∃ ad Ad cd, A = some ad ∧ w.cell? (ad.add (j * 2)) = some (.int .i64 ps[j].1) ∧ w.cell? ⟨(ad.add (j * 2)).block, (ad.add (j * 2)).off + 1, none⟩ = some (.slice Ad ps[j].2.length cd) ∧
    Rs kByte w S (.slice Ad ps[j].2.length cd) ps[j].2 ∧ I64 ps[j].1 := by
  obtain ⟨ad, cs, rfl, _, _, hK, hc⟩ := h.get hj
  obtain ⟨vd, rfl, hd, h0⟩ := kPar_iff.1 hK
  obtain ⟨Ad, cd, e, _⟩ := id hd
  subst e
  refine ⟨ad, Ad, cd, rfl, hc 0 _ rfl, ?_, hd, h0⟩
  have h := hc 1 _ rfl
  rw [← h, ← add_of_add]; rfl
theorem Ow.mt {α : Type} {d : Kd α} {base g : Nat} {e : TypeId} (hb : w.heap[g]? = some (.cells #[] e (0, 0))) (hbase : base ≤ g) (hS : S g) : Ow d e w base S (.slice (some ⟨g, 0, none⟩) 0 0) [] :=
  ⟨fun k hk => by simp [Value.ownBlock] at hk; exact hk ▸ hS, by simp, [], ⟨by simp, .inr ⟨g, 0, #[], rfl, hbase, hb, Nat.le_refl _, Nat.zero_le _, by simp, by simp⟩⟩, fun j x hj => by simp at hj⟩
end

set_option maxHeartbeats 400000 in
theorem ClonePar_calls (w : World) (S : Nat → Prop) (v : Value) (bs : List (Int × List UInt8)) (hr : Rs kPar w S v bs) (hsz : bs.length * 32 ≤ 140737488355328) :
    Calls Try.prog 63 #[v] w fun e w' => ∃ u, e = .returned u ∧ Ow kPar 96 w' w.heap.size (fun b => w.heap.size ≤ b ∨ S b) u bs ∧ Ext w w' := by
  have HR := Lib.hid hr.bound
  obtain ⟨A, c, rfl, hl, hc, hzl, hrow⟩ := hr
  cases A with
  | none =>
    have : bs = [] := by
      rcases Nat.eq_zero_or_pos bs.length with h0 | h0
      · exact List.eq_nil_of_length_eq_zero h0
      · obtain ⟨ad, h, _⟩ := hrow h0; cases h
    subst this
    clear hrow
    have hq := @Lib.run_eql_slice_nil Try.prog
    go_enter Try.func63, Try.ntmps63
    go_wp2
    go_ret
    exact ⟨_, rfl, Ow.nil _ _ _ _ _, Ext.refl _⟩
  | some ad =>
    clear hrow
    have hq := @Lib.run_eql_slice_nil Try.prog
    go_enter Try.func63, Try.ntmps63
    go_wp2_with (at_builtin; refine wpList_append_Rs kPar rfl (.tmp 5) (.tmp 6) 60 96 rfl tPars w.heap.size _ _ [] bs (fun b => w.heap.size ≤ b ∨ S b) _ rfl rfl ?co (HR.out.alloc _) ?ck ?cn ?cb ?cz ?_)
    case co => exact Ow.mt (heap_alloc_new _ _) (Nat.le_refl _) (.inl (Nat.le_refl _))
    case ck => exact fun y cs hy => kPar.mono (fun b hb => ⟨.inr hb.1, fun e => by have h2 := hb.2; have e' : some b = some w.heap.size := e; injection e' with e'; omega⟩) hy
    case cn => intro b hb; simp at hb; exact .inl (by omega)
    case cb => simpa using hsz
    case cz => simp
    intro v' w2 ho hg _
    have HO := Lib.hid ho
    have HE := Lib.hid (((Ext.refl w).alloc _).grown hg (fun k hk => by simp [Value.ownBlock] at hk; omega))
    clear ho hg
    go_wp2
    go_ret
    exact ⟨_, rfl, HO.out, HE.out⟩

set_option maxHeartbeats 400000 in
theorem CloneEnt_calls (w : World) (S : Nat → Prop) (v : Value) (bs : List EntS) (hr : Rs kEnt w S v bs) (hsz : bs.length * 40 ≤ 140737488355328) :
    Calls Try.prog 41 #[v] w fun e w' => ∃ u, e = .returned u ∧ Ow kEnt 71 w' w.heap.size (fun b => w.heap.size ≤ b ∨ S b) u bs ∧ Ext w w' := by
  have HR := Lib.hid hr.bound
  obtain ⟨A, c, rfl, hl, hc, hzl, hrow⟩ := hr
  cases A with
  | none =>
    have : bs = [] := by
      rcases Nat.eq_zero_or_pos bs.length with h0 | h0
      · exact List.eq_nil_of_length_eq_zero h0
      · obtain ⟨ad, h, _⟩ := hrow h0; cases h
    subst this
    clear hrow
    have hq := @Lib.run_eql_slice_nil Try.prog
    go_enter Try.func41, Try.ntmps41
    go_wp2
    go_ret
    exact ⟨_, rfl, Ow.nil _ _ _ _ _, Ext.refl _⟩
  | some ad =>
    clear hrow
    have hq := @Lib.run_eql_slice_nil Try.prog
    go_enter Try.func41, Try.ntmps41
    go_wp2_with (at_builtin; refine wpList_append_Rs kEnt rfl (.tmp 5) (.tmp 6) 22 71 rfl tEnts w.heap.size _ _ [] bs (fun b => w.heap.size ≤ b ∨ S b) _ rfl rfl ?co (HR.out.alloc _) ?ck ?cn ?cb ?cz ?_)
    case co => exact Ow.mt (heap_alloc_new _ _) (Nat.le_refl _) (.inl (Nat.le_refl _))
    case ck => exact fun y cs hy => kEnt.mono (fun b hb => ⟨.inr hb.1, fun e => by have h2 := hb.2; have e' : some b = some w.heap.size := e; injection e' with e'; omega⟩) hy
    case cn => intro b hb; simp at hb; exact .inl (by omega)
    case cb => simpa using hsz
    case cz => simp
    intro v' w2 ho hg _
    have HO := Lib.hid ho
    have HE := Lib.hid (((Ext.refl w).alloc _).grown hg (fun k hk => by simp [Value.ownBlock] at hk; omega))
    clear ho hg
    go_wp2
    go_ret
    exact ⟨_, rfl, HO.out, HE.out⟩

set_option maxHeartbeats 400000 in
theorem CloneMsg_calls (w : World) (S : Nat → Prop) (v : Value) (bs : List MsgS) (hr : Rs kMsg w S v bs) (hsz : bs.length * 144 ≤ 140737488355328) :
    Calls Try.prog 37 #[v] w fun e w' => ∃ u, e = .returned u ∧ Ow kMsg 26 w' w.heap.size (fun b => w.heap.size ≤ b ∨ S b) u bs ∧ Ext w w' := by
  have HR := Lib.hid hr.bound
  obtain ⟨A, c, rfl, hl, hc, hzl, hrow⟩ := hr
  cases A with
  | none =>
    have : bs = [] := by
      rcases Nat.eq_zero_or_pos bs.length with h0 | h0
      · exact List.eq_nil_of_length_eq_zero h0
      · obtain ⟨ad, h, _⟩ := hrow h0; cases h
    subst this
    clear hrow
    have hq := @Lib.run_eql_slice_nil Try.prog
    go_enter Try.func37, Try.ntmps37
    go_wp2
    go_ret
    exact ⟨_, rfl, Ow.nil _ _ _ _ _, Ext.refl _⟩
  | some ad =>
    clear hrow
    have hq := @Lib.run_eql_slice_nil Try.prog
    go_enter Try.func37, Try.ntmps37
    go_wp2_with (at_builtin; refine wpList_append_Rs kMsg rfl (.tmp 5) (.tmp 6) 28 26 rfl tMsgs w.heap.size _ _ [] bs (fun b => w.heap.size ≤ b ∨ S b) _ rfl rfl ?co (HR.out.alloc _) ?ck ?cn ?cb ?cz ?_)
    case co => exact Ow.mt (heap_alloc_new _ _) (Nat.le_refl _) (.inl (Nat.le_refl _))
    case ck => exact fun y cs hy => kMsg.mono (fun b hb => ⟨.inr hb.1, fun e => by have h2 := hb.2; have e' : some b = some w.heap.size := e; injection e' with e'; omega⟩) hy
    case cn => intro b hb; simp at hb; exact .inl (by omega)
    case cb => simpa using hsz
    case cz => simp
    intro v' w2 ho hg _
    have HO := Lib.hid ho
    have HE := Lib.hid (((Ext.refl w).alloc _).grown hg (fun k hk => by simp [Value.ownBlock] at hk; omega))
    clear ho hg
    go_wp2
    go_ret
    exact ⟨_, rfl, HO.out, HE.out⟩
end Go.Proofs.Ytfflcnlgkbgbhaa
