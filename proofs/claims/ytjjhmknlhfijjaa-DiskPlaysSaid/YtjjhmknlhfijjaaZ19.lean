/-
  Texts of this claim, put together: DrFall, RegA, DrAdd, DrOps.
-/
import Derived.Test.YtjjhmknlhfijjaaZ18
import Derived.Test.YtjjhmknlhfijjaaZ3
import Derived.StillTailTactics
import Derived.Lib.MinMax
import Derived.Deep.DeepCutAuto
import Derived.Test.YtjjhmknlhfijjaaZ1
set_option linter.unusedVariables false
set_option linter.unusedSimpArgs false
namespace Go.Proofs.Ytjjhmknlhfijjaa
open Go.RowKit

set_option maxRecDepth 1000000 in
set_option maxHeartbeats 8000000 in
theorem Fall_calls (w : World) (x : Nat) (M D : Nat → Prop) (s : DkS) (keep tear : Int) (h : RfX w x M D s) (hk : I64 keep) (ht : I64 tear) :
    Calls Try.prog 67 #[ptr x, .int .i64 keep, .int .i64 tear] w fun e w' => e = .returned (.tuple #[]) ∧ RfP w x M D w' (fallS s keep tear) := by
  obtain ⟨z, lv, av, h⟩ := h
  have HH := Lib.hid h
  have hb := h.blk
  obtain ⟨A, c, e, hl1, hl2, hl3, -⟩ := h.acts.rs
  subst e
  have hc2 : w.cell? ⟨x, 2, none⟩ = some (.slice A s.acts.length c) := cell_blk hb 2
  have hlt := blk_lt hb
  obtain ⟨n, hn⟩ : ∃ n, n = clampN keep s.acts.length := ⟨_, rfl⟩
  have HN := Lib.hid hn
  have hn1 : n ≤ s.acts.length := by rw [hn]; exact clamp_le _ _
  have hn2 : ∀ k : Nat, k < n → (k : Int) < keep ∧ (k + 1 = n → (k : Int) = keep - 1 ∨ (k : Int) = (s.acts.length : Int) - 1) ∧ (¬ k + 1 = n → (k : Int) ≠ keep - 1 ∧ (k : Int) ≠ (s.acts.length : Int) - 1) := fun k hk => by
    rw [hn] at hk ⊢
    unfold clampN at hk ⊢
    omega
  have HN2 := Lib.hid hn2
  have HN3 := Lib.hid (show n < s.acts.length → keep ≤ (n : Int) by rw [hn]; unfold clampN; omega)
  have HFAL := Lib.hid h.fal
  clear hb h hn hn2 hl1
  unfold ptr
  unfold I64 at hk ht
  go_enter Try.func67, Try.ntmps67
  go_wp2_with fail
  go_loopw [13] (fun i wr => ∃ k : Nat, k ≤ n ∧ i = .int .i64 k ∧ ∃ u, Hid (RFal w wr x D s z (.slice A s.acts.length c) (fallA s.acts n tear k) u)) (fun i _ => s.acts.length - (intOf i).toNat)
  case atStart => exact ⟨0, Nat.zero_le _, rfl, lv, by rw [fallA_zero]; exact HFAL⟩
  case round =>
    clear HFAL hc2
    obtain ⟨k, hkn, rfl, u, HF⟩ := hrel
    by_cases hlt2 : k < n
    · have hkl := Nat.lt_of_lt_of_le hlt2 hn1
      obtain ⟨ad, Ab, cb, rfl, hd, x0, x1, x2, x3, x4⟩ := HF.out.acts.rs.shape.2.2.2.2.ractE (j := k) hkl
      have HFA := Lib.hid (fallA_fits HH.out.ok.fits hn1 tear (k + 1))
      have HCA := Lib.hid (fallA_costs s.acts hn1 tear (k + 1))
      have HTH := Lib.hid (show k + 1 = n → fallA s.acts n tear (k + 1) = fallA s.acts n tear k ++ [tornA tear s.acts[k]] from fun e => fallA_last s.acts n tear k e hn1)
      have HWH := Lib.hid (show (k + 1 = n → tornA tear s.acts[k] = s.acts[k]) → fallA s.acts n tear (k + 1) = fallA s.acts n tear k ++ [s.acts[k]] from fun e => by
        by_cases hl : k + 1 = n
        · rw [fallA_last s.acts n tear k hl hn1, e hl]
        · exact fallA_step s.acts n tear k (by omega) hn1)
      have HPL := Lib.hid (HH.out.plain s.acts[k] (List.getElem_mem hkl))
      have HDL := Lib.hid (show s.acts[k].data.length ≤ 1073741824 by
        have h1 := costs_snoc s.acts k hkl
        have h2 := costs_take s.acts (k + 1)
        have h3 := HH.out.ok.room
        have h4 := HH.out.ok.most
        unfold DkS.used at h3
        omega)
      have HV := Lib.hid hd
      obtain ⟨q, hq⟩ : ∃ q, q = s.acts[k] := ⟨_, rfl⟩
      rw [← hq] at HV HTH HWH HPL HDL x0 x1 x2 x3 x4
      have HKK := Lib.hid (HN2.out k hlt2)
      have hk1 := HKK.out.1
      have HTZ := Lib.hid (show ¬ 0 < tear → tornA tear q = q from fun e => by
        unfold tornA tornB
        rw [show clampN tear q.data.length = 0 by unfold clampN; omega, Nat.sub_zero, List.take_length])
      have HTE := Lib.hid (show rkind q.k ≠ 0 → tornA tear q = q from fun e => by
        have h1 : q.data = [] := HPL.out fun n i h => e (by rw [h]; rfl)
        obtain ⟨qk, qd⟩ := q
        simp only at h1
        subst h1
        unfold tornA tornB
        simp)
      clear hd hq HN2
      go_upto_region 3 with fail
      obtain ⟨w2, hw2⟩ : ∃ w2, w2 = wr.alloc (.cells (ractC q.k (.slice Ab q.data.length cb)) 97) := ⟨_, rfl⟩
      obtain ⟨g, hg⟩ : ∃ g, g = wr.heap.size := ⟨_, rfl⟩
      have hx2 : Ext wr w2 := by rw [hw2]; exact (Ext.refl _).alloc _
      have HG := Lib.hid hg
      have HB2 := Lib.hid (show w2.heap[g]? = some (.cells (ractC q.k (.slice Ab q.data.length cb)) 97 (0, 0)) by rw [hw2]; exact heap_new wr g hg.symm _)
      have HF2 := Lib.hid (HF.out.ext hx2)
      have HV2 := Lib.hid (HV.out.ext hx2)
      have HX2 := Lib.hid hx2
      unfold ractC at hw2
      rw [← hw2, ← hg]
      clear hw2 hg hx2 x0 x1 x2 x3 x4
      have y0 : w2.cell? ⟨g, 0, none⟩ = some (.int .i64 (rkind q.k)) := cell_blk HB2.out 0
      have c2 : w2.cell? ⟨x, 2, none⟩ = some (.slice (some ad) s.acts.length c) := cell_blk HF2.out.blk 2
      have hgl := blk_lt HB2.out
      have hxl := blk_lt HF2.out.blk
      go_upto_region 4 with fail
      go_cut [43] (fun s43 wx => ∃ bb : Bool, s43 = .bool bb ∧ Hid (bb = true ↔ (rkind q.k = 0 ∧ k + 1 = n ∧ 0 < tear)) ∧ w2 = wx)
      case first =>
        by_cases hk0 : rkind q.k = 0
        · have e0 : (rkind q.k == 0) = true := beq_iff_eq.2 hk0
          have HK0 := Lib.hid hk0
          clear hk0
          by_cases htr : 0 < tear
          · have et : decide (0 < tear) = true := decide_eq_true htr
            have HTR := Lib.hid htr
            clear htr
            by_cases hlast : k + 1 = n
            · have HLA := Lib.hid hlast
              clear hlast
              by_cases hkp : (k : Int) = keep - 1
              · have e1 : ((k : Int) == keep - 1) = true := beq_iff_eq.2 hkp
                clear hkp
                go_wp2_with fail
                go_meet
                exact ⟨true, rfl, Lib.hid ⟨fun _ => ⟨HK0.out, HLA.out, HTR.out⟩, fun _ => rfl⟩, rfl⟩
              · have e1 : ((k : Int) == keep - 1) = false := beq_eq_false_iff_ne.2 hkp
                have e2 : ((k : Int) == (s.acts.length : Int) - 1) = true := beq_iff_eq.2 (by have h1 := HKK.out.2.1 HLA.out; omega)
                clear hkp
                go_wp2_with fail
                go_meet
                exact ⟨true, rfl, Lib.hid ⟨fun _ => ⟨HK0.out, HLA.out, HTR.out⟩, fun _ => rfl⟩, rfl⟩
            · have e1 : ((k : Int) == keep - 1) = false := beq_eq_false_iff_ne.2 (HKK.out.2.2 hlast).1
              have e2 : ((k : Int) == (s.acts.length : Int) - 1) = false := beq_eq_false_iff_ne.2 (HKK.out.2.2 hlast).2
              have HLA := Lib.hid hlast
              clear hlast
              go_wp2_with fail
              go_meet
              exact ⟨false, rfl, Lib.hid ⟨fun h => (nomatch h), fun h => absurd h.2.1 HLA.out⟩, rfl⟩
          · have et : decide (0 < tear) = false := decide_eq_false htr
            have HTR := Lib.hid htr
            clear htr
            have HFF := Lib.hid (show (false = true ↔ (rkind q.k = 0 ∧ k + 1 = n ∧ 0 < tear)) from ⟨fun h => (nomatch h), fun h => absurd h.2.2 HTR.out⟩)
            by_cases hkp : (k : Int) = keep - 1
            · have e1 : ((k : Int) == keep - 1) = true := beq_iff_eq.2 hkp
              clear hkp
              go_wp2_with fail
              go_meet
              exact ⟨false, rfl, HFF, rfl⟩
            · have e1 : ((k : Int) == keep - 1) = false := beq_eq_false_iff_ne.2 hkp
              clear hkp
              by_cases hkl : (k : Int) = (s.acts.length : Int) - 1
              · have e2 : ((k : Int) == (s.acts.length : Int) - 1) = true := beq_iff_eq.2 hkl
                clear hkl
                go_wp2_with fail
                go_meet
                exact ⟨false, rfl, HFF, rfl⟩
              · have e2 : ((k : Int) == (s.acts.length : Int) - 1) = false := beq_eq_false_iff_ne.2 hkl
                clear hkl
                go_wp2_with fail
                go_meet
                exact ⟨false, rfl, HFF, rfl⟩
        · have e0 : (rkind q.k == 0) = false := beq_eq_false_iff_ne.2 hk0
          have HK0 := Lib.hid hk0
          clear hk0
          go_wp2_with fail
          go_meet
          exact ⟨false, rfl, Lib.hid ⟨fun h => (nomatch h), fun h => absurd h.1 HK0.out⟩, rfl⟩
      obtain ⟨bb, rfl, HBB, rfl⟩ := hcut
      clear y0 c2
      go_upto_if 43 with fail
      go_cut [] (fun wx => ∃ (q2 : ActS) (A2 : Option Addr) (c2 : Nat), Hid (wx.heap[g]? = some (.cells (ractC q2.k (.slice A2 q2.data.length c2)) 97 (0, 0))) ∧ Hid (Rs kByte wx D (.slice A2 q2.data.length c2) q2.data) ∧ Hid (RFal w wx x D s z (.slice (some ad) s.acts.length c) (fallA s.acts n tear k) u) ∧ Hid (fallA s.acts n tear (k + 1) = fallA s.acts n tear k ++ [q2]))
      case first =>
        cases bb
        · have HST := Lib.hid (show fallA s.acts n tear (k + 1) = fallA s.acts n tear k ++ [q] from HWH.out fun e => by
            by_cases h0 : rkind q.k = 0
            · by_cases h1 : 0 < tear
              · exact absurd (HBB.out.2 ⟨h0, e, h1⟩) (by decide)
              · exact HTZ.out h1
            · exact HTE.out h0)
          go_wp2_with fail
          go_meet
          exact ⟨q, Ab, cb, HB2, HV2, HF2, HST⟩
        · have HST := Lib.hid (show fallA s.acts n tear (k + 1) = fallA s.acts n tear k ++ [tornA tear q] from HTH.out (HBB.out.1 rfl).2.1)
          have htr : 0 < tear := (HBB.out.1 rfl).2.2
          obtain ⟨m, hm⟩ : ∃ m : Nat, (m : Int) = min tear 1073741824 := ⟨(min tear 1073741824).toNat, by omega⟩
          have hm' : min tear 1073741824 = (m : Int) := hm.symm
          obtain ⟨r, hr⟩ : ∃ r, r = q.data.length - m := ⟨_, rfl⟩
          have hm2 : max 0 ((q.data.length : Int) - (m : Int)) = (r : Int) := by omega
          have hqm : q.data.length - clampN tear q.data.length = r := by have := HDL.out; unfold clampN; omega
          have HQD := Lib.hid (show (tornA tear q).data = q.data.take r by unfold tornA tornB; rw [hqm])
          have HRL := Lib.hid (show (tornA tear q).data.length = r by rw [HQD.out, List.length_take]; omega)
          obtain ⟨-, hs2, hs3, hs4, -⟩ := HV2.out.shape
          have hsl2 := slice_to tBytes Ab q.data.length cb .i64 (r : Int) r rfl (by omega)
          have hto := HV2.out.to_ (h := r) rfl (by omega)
          simp only [partV_eq, Nat.sub_zero] at hsl2 hto
          rw [← HQD.out] at hto
          obtain ⟨A9, hA9⟩ : ∃ A, A = restA Ab cb 0 := ⟨_, rfl⟩
          rw [← hA9] at hsl2 hto
          clear hA9
          have hm3 : m ≤ 1073741824 := by omega
          have hdl : q.data.length ≤ 1073741824 := HDL.out
          have HTO := Lib.hid hto
          have y4 : w2.cell? ⟨g, 4, none⟩ = some (.slice Ab q.data.length cb) := cell_blk HB2.out 4
          have yf : w2.frozen? ⟨g, 4, none⟩ = false := frozen_blk HB2.out 4
          clear hm hr hqm hto htr
          go_wp2_with fail
          go_meet
          refine ⟨tornA tear q, A9, cb, Lib.hid ?_, Lib.hid ?_, Lib.hid ?_, HST⟩
          · rw [HRL.out]; exact heap_setCell_same w2 g 4 _ _ (.slice A9 r cb) HB2.out
          · rw [HRL.out]
            exact HTO.out.upd ((Upd.refl (fun k => k = g) w2).set (g := g) (.inl rfl) _) (fun b hb e => by have h1 := HH.out.ltD b hb; have h2 := HG.out; have h3 := HF.out.upd.le; omega)
          · exact RFal.fresh HH.out HF.out HX2.out HG.out _
      case rest =>
        clear HBB HTH HWH HPL HDL HTZ HTE HB2 HV2 HF2 HV HX2 hgl hxl
        have HG := Lib.hid (show wr.heap.size ≤ g by rw [HG.out]; exact Nat.le_refl _)
        obtain ⟨qq, A2, c2, HB2, HV2, HF2, HST⟩ := hcut
        have HFT := Lib.hid (show fitsA s.last (fallA s.acts n tear k ++ [qq]) from HST.out ▸ HFA.out)
        have HCO := Lib.hid (show costs (fallA s.acts n tear k ++ [qq]) ≤ costs s.acts from HST.out ▸ HCA.out)
        go_upto_region 6 with fail
        obtain ⟨w5, hw5⟩ : ∃ W, W = wc.drew := ⟨_, rfl⟩
        have HX5 := Lib.hid (show Ext wc w5 by rw [hw5]; exact (Ext.refl _).drew)
        have HF5 := Lib.hid (HF2.out.ext HX5.out)
        have HB5 := Lib.hid (blk_ext HB2.out HX5.out)
        have HCL := Lib.hid (RFal.do_ HH.out HF5.out (q := qq) HFT.out HCO.out (HV2.out.ext HX5.out))
        have HS0 := Lib.hid (show ∀ W : World, W.heap[g]? = some (.cells (ractC qq.k (.slice A2 qq.data.length c2)) 97 (0, 0)) → W.cell? ⟨g, 0, none⟩ = some (.int .i64 (rkind qq.k)) ∧ W.cell? ⟨g, 1, none⟩ = some (.string ⟨(rname qq.k).toArray⟩) ∧ W.cell? ⟨g, 2, none⟩ = some (.string ⟨(rto qq.k).toArray⟩) ∧ W.cell? ⟨g, 3, none⟩ = some (.int .i64 (rat qq.k : Int)) ∧ W.cell? ⟨g, 4, none⟩ = some (.slice A2 qq.data.length c2) from fun W h => ⟨cell_blk h 0, cell_blk h 1, cell_blk h 2, cell_blk h 3, cell_blk h 4⟩)
        have HS1 := Lib.hid (show w5.cell? ⟨x, 1, none⟩ = some u from cell_blk HF5.out.blk 1)
        have hxl5 : x < w5.heap.size := blk_lt HF5.out.blk
        have HGX := Lib.hid (show g ≠ x by have h1 := HH.out.ltM x (HH.out.inM x (.inl rfl)); have h2 := HG.out; have h3 := HF.out.upd.le; omega)
        refine wpF_region (fun W => W.cell? ⟨g, 0, none⟩ = some (.int .i64 (rkind qq.k)) ∧ W.cell? ⟨g, 1, none⟩ = some (.string ⟨(rname qq.k).toArray⟩) ∧ W.cell? ⟨g, 2, none⟩ = some (.string ⟨(rto qq.k).toArray⟩) ∧ W.cell? ⟨g, 3, none⟩ = some (.int .i64 (rat qq.k : Int)) ∧ W.cell? ⟨g, 4, none⟩ = some (.slice A2 qq.data.length c2)) (fun W => W.cell? ⟨x, 1, none⟩ = some u) 9 10 (by kernel_rfl) (by kernel_rfl) ?_
        rw [← hw5]
        clear hw5
        refine wpF_take0 (i := 0) (v := ?v1) rfl (by kernel_rfl) (by kernel_rfl) (by kernel_rfl) (fun _ _ _ h => h) (by kernel_rfl) (Or.inl ⟨by rfl, ?hy1⟩) (HS0.out _ HB5.out) (fun _ => HS1.out) ?rest1
        case hy1 => (intro W hSW; (try dsimp only at hSW); go_simp; (try with_reducible rfl))
        (try simp only [Act.put, List.setIfInBounds_toArray, List.set_cons_zero, List.set_cons_succ])
        refine wpF_take0 (i := 1) (v := ?v2) rfl (by kernel_rfl) (by kernel_rfl) (by kernel_rfl) (fun _ _ _ h => h) (by kernel_rfl) (Or.inl ⟨by rfl, ?hy2⟩) (HS0.out _ HB5.out) (fun _ => HS1.out) ?rest2
        case hy2 => (intro W hSW; (try dsimp only at hSW); go_simp; (try with_reducible rfl))
        (try simp only [Act.put, List.setIfInBounds_toArray, List.set_cons_zero, List.set_cons_succ])
        refine wpF_take0 (i := 2) (v := ?v3) rfl (by kernel_rfl) (by kernel_rfl) (by kernel_rfl) (fun _ _ _ h => h) (by kernel_rfl) (Or.inl ⟨by rfl, ?hy3⟩) (HS0.out _ HB5.out) (fun _ => HS1.out) ?rest3
        case hy3 => (intro W hSW; (try dsimp only at hSW); go_simp; (try with_reducible rfl))
        (try simp only [Act.put, List.setIfInBounds_toArray, List.set_cons_zero, List.set_cons_succ])
        refine wpF_take0 (i := 3) (v := ?v4) rfl (by kernel_rfl) (by kernel_rfl) (by kernel_rfl) (fun _ _ _ h => h) (by kernel_rfl) (Or.inl ⟨by rfl, ?hy4⟩) (HS0.out _ HB5.out) (fun _ => HS1.out) ?rest4
        case hy4 => (intro W hSW; (try dsimp only at hSW); go_simp; (try with_reducible rfl))
        (try simp only [Act.put, List.setIfInBounds_toArray, List.set_cons_zero, List.set_cons_succ])
        refine wpF_take1 (i := 4) (v := ?v5) rfl (by kernel_rfl) (by kernel_rfl) (by kernel_rfl) (fun _ _ _ h => h) (by kernel_rfl) (by kernel_rfl) (by kernel_rfl) (Or.inl ⟨by rfl, ?hy5⟩) (HS0.out _ HB5.out) (fun _ => HS1.out) ?rest5
        case hy5 => (intro W hSW; (try dsimp only at hSW); go_simp; (try with_reducible rfl))
        (try simp only [Act.put, List.setIfInBounds_toArray, List.set_cons_zero, List.set_cons_succ])
        refine wpF_take0 (i := 5) (v := ?v6) rfl (by kernel_rfl) (by kernel_rfl) (by kernel_rfl) (fun _ _ _ h => h) (by kernel_rfl) (Or.inl ⟨by rfl, ?hy6⟩) (HS0.out _ HB5.out) (fun _ => HS1.out) ?rest6
        case hy6 => (intro W hSW; (try dsimp only at hSW); go_simp; (try with_reducible rfl))
        (try simp only [Act.put, List.setIfInBounds_toArray, List.set_cons_zero, List.set_cons_succ])
        refine wpF_step (i := 6) (by kernel_rfl) rfl (fun K hK => ?_)
        go_simp
        refine HCL.out.mono ?_
        rintro e w6 ⟨u', rfl, HR6, HX6⟩
        have HB6 := Lib.hid (blk_ext HB5.out HX6.out)
        have HF6 := Lib.hid (HF5.out.ext HX6.out)
        have HS6 := Lib.hid (show w6.cell? ⟨x, 1, none⟩ = some u from cell_blk HF6.out.blk 1)
        obtain ⟨A6, c6, e6, -⟩ := id HR6.out
        obtain ⟨m6, hm6⟩ : ∃ m, m = (runA s.last (fallA s.acts n tear k ++ [qq])).length := ⟨_, rfl⟩
        rw [← hm6] at e6
        clear hm6
        subst e6
        (try go_wp2_with fail)
        refine hK.out _ _ (HS0.out _ HB6.out) (fun _ => HS6.out) ?_
        clear hK K
        (try simp only [Act.put, List.setIfInBounds_toArray, List.set_cons_zero, List.set_cons_succ])
        refine wpF_take0 (i := 7) (v := ?v7) rfl (by kernel_rfl) (by kernel_rfl) (by kernel_rfl) (fun _ _ _ h => h) (by kernel_rfl) (Or.inl ⟨by rfl, ?hy7⟩) (HS0.out _ HB6.out) (fun _ => HS6.out) ?rest7
        case hy7 => (intro W hSW; (try dsimp only at hSW); go_simp; (try with_reducible rfl))
        (try simp only [Act.put, List.setIfInBounds_toArray, List.set_cons_zero, List.set_cons_succ])
        refine wpF_take0 (i := 8) (v := ?v8) rfl (by kernel_rfl) (by kernel_rfl) (by kernel_rfl) (fun _ _ _ h => h) (by kernel_rfl) (Or.inl ⟨by rfl, ?hy8⟩) (HS0.out _ HB6.out) (fun _ => HS6.out) ?rest8
        case hy8 => (intro W hSW; (try dsimp only at hSW); go_simp; (try with_reducible rfl))
        (try simp only [Act.put, List.setIfInBounds_toArray, List.set_cons_zero, List.set_cons_succ])
        have HF7 := Lib.hid (RFal.set_ HH.out HF5.out HX6.out HR6.out)
        rw [← HST.out] at HF7
        have HB7 := Lib.hid ((heap_setCell_other w6 ⟨x, 1, none⟩ g (.slice A6 m6 c6) HGX.out).trans HB6.out)
        have f6 : w6.frozen? ⟨x, 1, none⟩ = false := frozen_blk HF6.out.blk 1
        have y6 := HS6.out
        refine wpF_step (i := 9) (by kernel_rfl) rfl (fun K hK => ?_)
        go_simp
        refine hK.out _ _ (HS0.out _ HB7.out) (gone (by kernel_rfl)) ?_
        clear hK K
        (try simp only [Act.put, List.setIfInBounds_toArray, List.set_cons_zero, List.set_cons_succ])
        refine wpF_done (by kernel_rfl) ?_ _
        refine NoPanic.normal ?_
        go_wp2_with fail
        go_roundw
        case rel => exact ⟨k + 1, by omega, by go_num, _, HF7⟩
        case measure => simp [intOf]; omega

    · obtain rfl : k = n := by omega
      rw [fallA_end] at HF
      have hxl := blk_lt HF.out.blk
      have HEND := Lib.hid (fun (w2 : World) (hx : Ext wr w2) => RFal.end_ (keep := keep) (tear := tear) HH.out (by rw [← HN.out]; exact HF.out) hx)
      have HCC := Lib.hid (show ∀ W : World, Ext wr W → x < W.heap.size ∧ (∀ i, W.frozen? ⟨x, i, none⟩ = false) ∧ W.cell? ⟨x, 2, none⟩ = some (.slice A s.acts.length c) ∧ W.cell? ⟨x, 3, none⟩ = some (.bool s.off) ∧ W.cell? ⟨x, 4, none⟩ = some (.int .i64 s.left) from fun W he => by
        have hb := blk_ext HF.out.blk he
        exact ⟨blk_lt hb, fun i => frozen_blk hb i, cell_blk hb 2, cell_blk hb 3, cell_blk hb 4⟩)
      by_cases hlt3 : k < s.acts.length
      · have hkp := HN3.out hlt3
        obtain ⟨ad, Ab, cb, rfl, hd, x0, x1, x2, x3, x4⟩ := HF.out.acts.rs.shape.2.2.2.2.ractE (j := k) hlt3
        obtain ⟨q, hq⟩ : ∃ q, q = s.acts[k] := ⟨_, rfl⟩
        rw [← hq] at x0 x1 x2 x3 x4
        clear hd hq
        go_upto_region 3 with fail
        obtain ⟨w2, hw2⟩ : ∃ w2, w2 = wr.alloc (.cells (ractC q.k (.slice Ab q.data.length cb)) 97) := ⟨_, rfl⟩
        have hx2 : Ext wr w2 := by rw [hw2]; exact (Ext.refl _).alloc _
        have HX2 := Lib.hid hx2
        obtain ⟨hl4, hz, z2, z3, z4⟩ := HCC.out w2 hx2
        unfold ractC at hw2
        rw [← hw2]
        clear hw2 hx2 x0 x1 x2 x3 x4 HCC
        go_wp2_with fail
        go_end0
        exact ⟨rfl, HEND.out _ HX2.out⟩
      · obtain ⟨hl4, hz, z2, z3, z4⟩ := HCC.out wr (Ext.refl _)
        clear HCC
        go_wp2_with fail
        go_end0
        exact ⟨rfl, HEND.out _ (Ext.refl _)⟩
end Go.Proofs.Ytjjhmknlhfijjaa
set_option linter.unusedVariables false
set_option linter.unusedSimpArgs false
namespace Go.Proofs.Ytjjhmknlhfijjaa
open Go.RowKit

theorem wp_append_Rs {P : Program} {w : World} {o : Oper} {a : Act} {K : Act → World → Prop} {Q : Exit → Act → World → Prop} {α : Type} (d : Kd α) (s y : Operand) (t e : TypeId) {z : Value} {bytes : Nat}
    (ho : o.op = .call { callee := .builtin .append, args := #[s, y], argTypes := #[t, t] }) (hE : ElemT P t e z d.sz bytes)
    (base : Nat) (v x : Value) (xs ys : List α) (S T : Nat → Prop) (hs : a.eval s = v) (hx : a.eval y = x) (hown : Ow d e w base S v xs) (hr : Rs d w T x ys)
    (hST : ∀ y cs, d.K w T y cs → d.K w (fun b => S b ∧ some b ≠ v.ownBlock) y cs) (hnew : ∀ b, w.heap.size ≤ b → S b)
    (hbytes : (xs.length + ys.length) * bytes ≤ 140737488355328) (hbase : base ≤ w.heap.size)
    (h : ∀ v' w', Ow d e w' base S v' (xs ++ ys) → w.grownBy w' v.ownBlock → (v'.ownBlock = v.ownBlock ∨ v'.ownBlock = some w.heap.size) → K (a.put o.dst v') w') :
    Oper.wp P o a w K Q := by
  obtain ⟨i, hi, hz0, hz1, hz2⟩ := info_parts hE.info
  obtain ⟨v', w', hr, h2, h3, h4⟩ := run_append_Rs (P := P) (w := w) (d := d) base t o.type e i z bytes hE.under hi hz0 hz1 hz2 hE.cells hE.pos v x xs ys S T hown hr hST hnew hbytes hE.pos' hbase
  unfold Oper.wp execOp
  simp only [ho, resolve, invoke, builtin, Sem.run_bind, Sem.run_pure, Result.andThen_ok, List.map_toArray, List.map_cons, List.map_nil, hs, hx, hr]
  exact h v' w' h2 h3 h4
end Go.Proofs.Ytjjhmknlhfijjaa
set_option linter.unusedVariables false
set_option linter.unusedSimpArgs false
namespace Go.Proofs.Ytjjhmknlhfijjaa
open Go.RowKit

theorem RfY.moreD {w : World} {x : Nat} {M D E : Nat → Prop} {s : DkS} {z : RfN} {lv av : Value} (h : RfY w x M D s z lv av) (hM : ∀ k, E k → ¬ M k) (hlt : ∀ k, E k → k < w.heap.size) : RfY w x M (fun k => D k ∨ E k) s z lv av where
  blk := h.blk
  files := h.files.mono fun _ h => .inl h
  acts := RActR.of h.acts (fun _ h => .inl h) (fun k hk => hk.elim (h.ltD k) (hlt k)) fun k hk he => he.elim (fun hd => h.apart k hd (h.inM k (.inr hk))) fun he => hM k he (h.inM k (.inr hk))
  inM := h.inM
  apart := fun k hk => hk.elim (h.apart k) (hM k)
  ne := h.ne
  ltM := h.ltM
  ltD := fun k hk => hk.elim (h.ltD k) (hlt k)
  ok := h.ok
  num := h.num
  same := h.same
  most := h.most
  plain := h.plain
theorem Rs.one_ractE {w : World} {D : Nat → Prop} {g : Nat} {v : Value} {x : ActS} (hb : w.heap[g]? = some (.cells (ractC x.k v) 97 (0, 0))) (hv : Rs kByte w D v x.data) (hD : ∀ k, D k → k < w.heap.size) :
    Rs (kRActE D) w (fun k => D k ∨ k = g) (.slice (some ⟨g, 0, none⟩) 1 1) [x] :=
  ⟨_, 1, rfl, by simp, by omega, by simp, Row.of_block hb (.inr rfl) fun j y hj => by
    cases j with
    | zero =>
      simp at hj
      subst hj
      exact ⟨_, ⟨⟨v, rfl, hv⟩, fun b hb => ⟨.inl hb, hD b hb⟩⟩, fun i u hi => by simp only [Nat.zero_mul, Nat.zero_add]; simpa using hi⟩
    | succ j => simp at hj⟩
/-- What stands behind an act that was laid down. -/
theorem rput_end {w w2 : World} {x : Nat} {M D : Nat → Prop} {s : DkS} {z : RfN} {lv av v' : Value} {q : ActS} {o : Obj} (h : RfY w x M D s z lv av)
    (ho : Ow (kRActE D) 97 w2 0 (fun k => D k ∨ av.ownBlock = some k ∨ w.heap.size ≤ k) v' (s.acts ++ [q])) (hg : (w.alloc o).grownBy w2 av.ownBlock) (hk : v'.ownBlock = av.ownBlock ∨ v'.ownBlock = some (w.alloc o).heap.size) (hok : DkOk (putA s q)) (hpl : (∀ n i, q.k ≠ .wr n i) → q.data = []) :
    ∃ M', RfY (w2.setCell ⟨x, 2, none⟩ v') x M' D (putA s q) z lv v' ∧ DkT w (w2.setCell ⟨x, 2, none⟩ v') M D M' D := by
  have hxM : M x := h.inM x (.inl rfl)
  have hxl := h.ltM x hxM
  have hoM : ∀ k, av.ownBlock = some k → M k := fun k hk => h.inM k (.inr hk)
  have hle2 : w.heap.size + 1 ≤ w2.heap.size := by have := hg.size; simpa using this
  rw [World.size_alloc] at hk
  have hu2 : Upd (fun k => av.ownBlock = some k) w w2 := ((Upd.refl _ w).alloc o).grown hg fun k hk => .inl hk
  have bx := blk_upd h.blk hu2 h.ne
  have bx' := heap_setCell_same w2 x 2 _ _ v' bx
  have hu3 : Upd (fun k => k = x) w2 (w2.setCell ⟨x, 2, none⟩ v') := (Upd.refl (fun k => k = x) w2).set (g := x) (.inl rfl) v'
  have hle3 := hu3.le
  have hown : ∀ k, v'.ownBlock = some k → (M k ∧ av.ownBlock = some k) ∨ w.heap.size < k := fun k hk' => by
    rcases hk with hk | hk
    · rw [hk] at hk'; exact .inl ⟨hoM k hk', hk'⟩
    · rw [hk] at hk'; injection hk' with e; exact .inr (by omega)
  have hownD : ∀ k, v'.ownBlock = some k → ¬ D k := fun k hk' h2 => by
    rcases hown k hk' with ⟨h1, _⟩ | h1
    · exact h.apart k h2 h1
    · have := h.ltD k h2; omega
  refine ⟨fun k => M k ∨ v'.ownBlock = some k, ?_, ?_⟩
  · constructor
    case blk => exact bx'
    case files => exact (h.files.upd hu2 fun k hk e => h.apart k hk (hoM k e)).upd hu3 fun k hk e => h.apart k hk (e ▸ hxM)
    case acts =>
      refine (RActR.of ho (fun _ h => h) (fun k hk => by have := h.ltD k hk; omega) hownD).upd hu3 (fun k hk e => h.apart k hk (e ▸ hxM)) fun k hk e => ?_
      rcases hown k hk with ⟨_, h1⟩ | h1
      · exact h.ne (by rw [h1, e])
      · omega
    case inM =>
      rintro k (rfl | hk)
      · exact .inl hxM
      · exact .inr hk
    case apart =>
      rintro k hk (h1 | h1)
      · exact h.apart k hk h1
      · exact hownD k h1 hk
    case ne =>
      intro e
      rcases hown _ e with ⟨_, h1⟩ | h1
      · exact h.ne h1
      · omega
    case ltM =>
      rintro k (hk | hk)
      · have := h.ltM k hk; omega
      · have := ho.lt k hk; omega
    case ltD => exact fun k hk => by have := h.ltD k hk; omega
    case ok => exact hok
    case num => exact h.num
    case same => exact h.same
    case most => exact h.most
    case plain =>
      intro a ha
      rcases List.mem_append.1 ha with ha | ha
      · exact h.plain a ha
      · obtain rfl := List.mem_singleton.1 ha
        exact hpl
  · refine ⟨(hu2.mono hoM).trans (hu3.mono ?_), ?_, fun _ h => .inl h⟩
    · rintro k rfl; exact hxM
    · rintro k (hk | hk)
      · exact .inl hk
      · rcases hown k hk with ⟨h1, _⟩ | h1
        · exact .inl h1
        · exact .inr (by omega)
theorem rfall_same {w : World} {x : Nat} {M D : Nat → Prop} {s : DkS} {z : RfN} {lv av : Value} (h : RfY w x M D (hitS s) z lv av) (h2 : s.left ≠ 0 → z.keep = s.keep ∧ z.tear = s.tear) (hh : hitB s = true) : fallS (hitS s) z.keep z.tear = fallS s s.keep s.tear := by
  have h1 : s.left ≠ 0 := by unfold hitB at hh; simp only [decide_eq_true_eq] at hh; omega
  rw [fall_hit, (h2 h1).1, (h2 h1).2]
set_option maxRecDepth 100000 in
set_option maxHeartbeats 4000000 in
theorem radd_calls (w : World) (x : Nat) (M D : Nat → Prop) (s : DkS) (q : ActS) (v : Value) (h : RfX w x M D s) (hv : Rs kByte w D v q.data) (hfit : fit1 s.seen q) (hroom : (s.used : Int) + q.data.length ≤ s.room) (hn : s.acts.length ≤ 1000000) (hpl : (∀ n i, q.k ≠ .wr n i) → q.data = []) :
    Calls Try.prog 64 #[ptr x, .agg (ractC q.k v)] w fun e w' => e = .returned (.int .i64 (pushS s q).1) ∧ RfP w x M D w' (pushS s q).2 := by
  obtain ⟨z, lv, av, h⟩ := h
  have HH := Lib.hid h
  have HV := Lib.hid hv
  obtain ⟨Av, cv, e, hvl, -⟩ := id hv
  subst e
  have HN := Lib.hid hn
  have HOK := Lib.hid (put_ok h.ok hfit hroom)
  have HPL := Lib.hid hpl
  have hb := h.blk
  have hc2 : w.cell? ⟨x, 2, none⟩ = some av := cell_blk hb 2
  have hlt := blk_lt hb
  clear hb h hv hfit hroom hn hpl
  unfold ptr
  obtain ⟨w1, hw1⟩ : ∃ w1, w1 = w.alloc (.cells (ractC q.k (.slice Av q.data.length cv)) 97) := ⟨_, rfl⟩
  obtain ⟨g0, hg0⟩ : ∃ g, g = w.heap.size := ⟨_, rfl⟩
  have hx1 : Ext w w1 := by rw [hw1]; exact (Ext.refl _).alloc _
  have HG0 := Lib.hid (show ¬ M g0 from fun h => by have := HH.out.ltM g0 h; omega)
  have HB1 := Lib.hid (show w1.heap[g0]? = some (.cells (ractC q.k (.slice Av q.data.length cv)) 97 (0, 0)) by rw [hw1]; exact heap_new w g0 hg0.symm _)
  unfold ractC at hw1
  go_enter Try.func64, Try.ntmps64
  unfold ractC
  go_upto_region 1 with fail
  rw [← hw1, ← hg0]
  obtain ⟨w1d, hw1d⟩ : ∃ W, W = w1.drew := ⟨_, rfl⟩
  have hx1d : Ext w w1d := by rw [hw1d]; exact hx1.drew
  have HX1 := Lib.hid hx1d
  have HB1 := Lib.hid (show w1d.heap[g0]? = some (.cells (ractC q.k (.slice Av q.data.length cv)) 97 (0, 0)) by rw [hw1d]; exact blk_ext HB1.out (Ext.refl _).drew)
  have HY1 := Lib.hid (HH.out.ext hx1d)
  have HV1 := Lib.hid (HV.out.ext hx1d)
  obtain ⟨w2, hw2⟩ : ∃ w2, w2 = w1d.alloc (.cells (ractC q.k (.slice Av q.data.length cv)) 97) := ⟨_, rfl⟩
  have hx2 : Ext w1d w2 := by rw [hw2]; exact (Ext.refl _).alloc _
  have HOW := Lib.hid (show Ow (kRActE D) 97 w2 0 (fun k => D k ∨ av.ownBlock = some k ∨ w1d.heap.size ≤ k) av s.acts from
    Ow.mono ((HY1.out.ext hx2).acts) fun k hk => hk.elim .inl fun h => .inr (.inl h))
  have HRS := Lib.hid (show Rs (kRActE D) w2 (fun k => D k ∨ k = w1d.heap.size) (.slice (some ⟨w1d.heap.size, 0, none⟩) 1 1) [q] from
    Rs.one_ractE (by rw [hw2]; exact heap_alloc_new _ _) (HV1.out.ext hx2) (fun k hk => Nat.lt_of_lt_of_le (HY1.out.ltD k hk) hx2.le))
  have HST := Lib.hid (show ∀ y cs, (kRActE D).K w2 (fun k => D k ∨ k = w1d.heap.size) y cs → (kRActE D).K w2 (fun b => (D b ∨ av.ownBlock = some b ∨ w1d.heap.size ≤ b) ∧ some b ≠ av.ownBlock) y cs from
    fun y cs hy => (kRActE D).mono (fun b hb => ⟨hb.elim .inl fun e => .inr (.inr (by omega)), fun e => by
      have h1 := HY1.out.inM b (.inr e.symm)
      rcases hb with hb | hb
      · exact HY1.out.apart b hb h1
      · have := HY1.out.ltM b h1; omega⟩) hy)
  have HW2 := Lib.hid hw2
  have HY2 := Lib.hid (HY1.out.ext hx2)
  have HB2 := Lib.hid (blk_ext HB1.out hx2)
  have hlt1 : x < w1d.heap.size := blk_lt HY1.out.blk
  have hgl1 : g0 < w1d.heap.size := blk_lt HB1.out
  have HS0 := Lib.hid (show ∀ W : World, W.heap[g0]? = some (.cells (ractC q.k (.slice Av q.data.length cv)) 97 (0, 0)) → W.cell? ⟨g0, 0, none⟩ = some (.int .i64 (rkind q.k)) ∧ W.cell? ⟨g0, 1, none⟩ = some (.string ⟨(rname q.k).toArray⟩) ∧ W.cell? ⟨g0, 2, none⟩ = some (.string ⟨(rto q.k).toArray⟩) ∧ W.cell? ⟨g0, 3, none⟩ = some (.int .i64 (rat q.k : Int)) ∧ W.cell? ⟨g0, 4, none⟩ = some (.slice Av q.data.length cv) from fun W h => ⟨cell_blk h 0, cell_blk h 1, cell_blk h 2, cell_blk h 3, cell_blk h 4⟩)
  have HS1 := Lib.hid (show w1d.cell? ⟨x, 2, none⟩ = some av from cell_blk HY1.out.blk 2)
  have HS2 := Lib.hid (show w2.cell? ⟨x, 2, none⟩ = some av from cell_blk HY2.out.blk 2)
  refine wpF_region (fun W => W.cell? ⟨g0, 0, none⟩ = some (.int .i64 (rkind q.k)) ∧ W.cell? ⟨g0, 1, none⟩ = some (.string ⟨(rname q.k).toArray⟩) ∧ W.cell? ⟨g0, 2, none⟩ = some (.string ⟨(rto q.k).toArray⟩) ∧ W.cell? ⟨g0, 3, none⟩ = some (.int .i64 (rat q.k : Int)) ∧ W.cell? ⟨g0, 4, none⟩ = some (.slice Av q.data.length cv)) (fun W => W.cell? ⟨x, 2, none⟩ = some av) 10 11 (by kernel_rfl) (by kernel_rfl) ?_
  rw [← hw1d]
  clear hw1 hg0 hx1 hc2 hlt hw1d hx1d hx2
  unfold ractC at hw2
  refine wpF_take0 (i := 0) (v := ?v1) rfl (by kernel_rfl) (by kernel_rfl) (by kernel_rfl) (fun _ _ _ h => h) (by kernel_rfl) (Or.inl ⟨by rfl, ?hy1⟩) (HS0.out _ HB1.out) (fun _ => HS1.out) ?rest1
  case hy1 => (intro W hSW; (try dsimp only at hSW); go_simp; (try with_reducible rfl))
  (try simp only [Act.put, List.setIfInBounds_toArray, List.set_cons_zero, List.set_cons_succ])
  refine wpF_take0 (i := 1) (v := ?v2) rfl (by kernel_rfl) (by kernel_rfl) (by kernel_rfl) (fun _ _ _ h => h) (by kernel_rfl) (Or.inl ⟨by rfl, ?hy2⟩) (HS0.out _ HB1.out) (fun _ => HS1.out) ?rest2
  case hy2 => (intro W hSW; (try dsimp only at hSW); go_simp; (try with_reducible rfl))
  (try simp only [Act.put, List.setIfInBounds_toArray, List.set_cons_zero, List.set_cons_succ])
  refine wpF_take0 (i := 2) (v := ?v3) rfl (by kernel_rfl) (by kernel_rfl) (by kernel_rfl) (fun _ _ _ h => h) (by kernel_rfl) (Or.inl ⟨by rfl, ?hy3⟩) (HS0.out _ HB1.out) (fun _ => HS1.out) ?rest3
  case hy3 => (intro W hSW; (try dsimp only at hSW); go_simp; (try with_reducible rfl))
  (try simp only [Act.put, List.setIfInBounds_toArray, List.set_cons_zero, List.set_cons_succ])
  refine wpF_take0 (i := 3) (v := ?v4) rfl (by kernel_rfl) (by kernel_rfl) (by kernel_rfl) (fun _ _ _ h => h) (by kernel_rfl) (Or.inl ⟨by rfl, ?hy4⟩) (HS0.out _ HB1.out) (fun _ => HS1.out) ?rest4
  case hy4 => (intro W hSW; (try dsimp only at hSW); go_simp; (try with_reducible rfl))
  (try simp only [Act.put, List.setIfInBounds_toArray, List.set_cons_zero, List.set_cons_succ])
  refine wpF_take1 (i := 4) (v := ?v5) rfl (by kernel_rfl) (by kernel_rfl) (by kernel_rfl) (fun _ _ _ h => h) (by kernel_rfl) (by kernel_rfl) (by kernel_rfl) (Or.inl ⟨by rfl, ?hy5⟩) (HS0.out _ HB1.out) (fun _ => HS1.out) ?rest5
  case hy5 => (intro W hSW; (try dsimp only at hSW); go_simp; (try with_reducible rfl))
  (try simp only [Act.put, List.setIfInBounds_toArray, List.set_cons_zero, List.set_cons_succ])
  refine wpF_take0 (i := 5) (v := ?v6) rfl (by kernel_rfl) (by kernel_rfl) (by kernel_rfl) (fun _ _ _ h => h) (by kernel_rfl) (Or.inl ⟨by rfl, ?hy6⟩) (HS0.out _ HB1.out) (fun _ => HS1.out) ?rest6
  case hy6 => (intro W hSW; (try dsimp only at hSW); go_simp; (try with_reducible rfl))
  (try simp only [Act.put, List.setIfInBounds_toArray, List.set_cons_zero, List.set_cons_succ])
  refine wpF_step (i := 6) (by kernel_rfl) rfl (fun K hK => ?_)
  go_simp
  rw [← hw2]
  clear hw2
  refine hK.out _ _ (HS0.out _ HB2.out) (fun _ => HS2.out) ?_
  clear hK K
  (try simp only [Act.put, List.setIfInBounds_toArray, List.set_cons_zero, List.set_cons_succ])
  refine wpF_step (i := 7) (by kernel_rfl) rfl (fun K hK => ?_)
  rw [if_pos (by kernel_rfl)]
  refine wp_append_Rs (kRActE D) (.tmp 9) (.tmp 11) 89 97 rfl tRActs 0 _ _ s.acts [q] _ _ rfl rfl HOW.out HRS.out HST.out (fun k hk => .inr (.inr (Nat.le_trans (by rw [HW2.out, World.size_alloc]; omega) hk))) (by have := HN.out; simp; omega) (Nat.zero_le _) ?_
  intro v' w3 ho hg hbk
  obtain ⟨A', c', e, -, -, -, -⟩ := ho.rs
  obtain ⟨ln, hln⟩ : ∃ ln, ln = (s.acts ++ [q]).length := ⟨_, rfl⟩
  rw [← hln] at e
  clear hln
  subst e
  obtain ⟨M1, hy, hT⟩ := rput_end HY1.out ho (HW2.out ▸ hg) (HW2.out ▸ hbk) HOK.out HPL.out
  have HY := Lib.hid hy
  have HT := Lib.hid ((HX1.out.dkT M D).trans hT)
  have hu3 : Upd (fun k => av.ownBlock = some k) w1d w3 := ((Upd.refl _ w1d).alloc _).grown (HW2.out ▸ hg) fun k hk => .inl hk
  have hb3 := blk_upd HY1.out.blk hu3 HY1.out.ne
  have HS3 := Lib.hid (show w3.cell? ⟨x, 2, none⟩ = some av from cell_blk hb3 2)
  have hz2' : w3.frozen? ⟨x, 2, none⟩ = false := frozen_blk hb3 2
  have hlt3 : x < w3.heap.size := blk_lt hb3
  have HB3 := Lib.hid (blk_upd HB1.out hu3 fun e => by have h1 := HY1.out.inM g0 (.inr e); exact HG0.out h1)
  have HGX := Lib.hid (show g0 ≠ x by rintro rfl; exact HG0.out (HY1.out.inM _ (.inl rfl)))
  clear ho hg hbk hy hT hb3 hu3
  refine hK.out _ _ (HS0.out _ HB3.out) (fun _ => HS3.out) ?_
  clear hK K
  (try simp only [Act.put, List.setIfInBounds_toArray, List.set_cons_zero, List.set_cons_succ])
  refine wpF_take0 (i := 8) (v := ?v7) rfl (by kernel_rfl) (by kernel_rfl) (by kernel_rfl) (fun _ _ _ h => h) (by kernel_rfl) (Or.inl ⟨by rfl, ?hy7⟩) (HS0.out _ HB3.out) (fun _ => HS3.out) ?rest7
  case hy7 => (intro W hSW; (try dsimp only at hSW); go_simp; (try with_reducible rfl))
  (try simp only [Act.put, List.setIfInBounds_toArray, List.set_cons_zero, List.set_cons_succ])
  refine wpF_take0 (i := 9) (v := ?v8) rfl (by kernel_rfl) (by kernel_rfl) (by kernel_rfl) (fun _ _ _ h => h) (by kernel_rfl) (Or.inl ⟨by rfl, ?hy8⟩) (HS0.out _ HB3.out) (fun _ => HS3.out) ?rest8
  case hy8 => (intro W hSW; (try dsimp only at hSW); go_simp; (try with_reducible rfl))
  (try simp only [Act.put, List.setIfInBounds_toArray, List.set_cons_zero, List.set_cons_succ])
  have HB4 := Lib.hid ((heap_setCell_other w3 ⟨x, 2, none⟩ g0 (.slice A' ln c') HGX.out).trans HB3.out)
  have y3 := HS3.out
  refine wpF_step (i := 10) (by kernel_rfl) rfl (fun K hK => ?_)
  go_simp
  refine hK.out _ _ (HS0.out _ HB4.out) (gone (by kernel_rfl)) ?_
  clear hK K
  (try simp only [Act.put, List.setIfInBounds_toArray, List.set_cons_zero, List.set_cons_succ])
  refine wpF_done (by kernel_rfl) ?_ _
  refine NoPanic.normal ?_
  clear y3 hz2'

  go_wp2_with fail
  refine (hit_calls _ x M1 D _ _ _ _ HY.out).mono ?_
  have hh : hitB (putA s q) = hitB s := rfl
  rw [hh]
  rintro e w4 ⟨rfl, hy4, hu4⟩
  have HY4 := Lib.hid hy4
  have HT4 := Lib.hid (HT.out.trans ⟨hu4.mono (by rintro k rfl; exact HY.out.inM k (.inl rfl)), fun _ h => .inl h, fun _ h => .inl h⟩)
  have hc5 : w4.cell? ⟨x, 5, none⟩ = some (.int .i64 z.keep) := cell_blk hy4.blk 5
  have hc6 : w4.cell? ⟨x, 6, none⟩ = some (.int .i64 z.tear) := cell_blk hy4.blk 6
  clear hy4 hu4 hh
  by_cases hhit : hitB s = true
  · have HE := Lib.hid (show pushS s q = (22, fallS (putA s q) s.keep s.tear) by unfold pushS; rw [if_pos hhit])
    have HSM := Lib.hid (rfall_same HY4.out HY.out.same hhit)
    rw [hhit]
    clear hhit
    go_wp2_with fail
    have hx4 := (Ext.refl w4).drew
    go_still_tail 9, (by kernel_rfl)
    change wpList _ _ _ _ _ w4.drew
    have HY5 := Lib.hid (HY4.out.ext hx4)
    have HT5 := Lib.hid (HT4.out.trans (hx4.dkT _ _))
    clear hx4 hc5 hc6
    generalize w4.drew = w5 at *
    go_wp2_with fail
    refine (Fall_calls w5 x _ _ _ _ _ HY5.out.toX HY4.out.num.1 HY4.out.num.2).mono ?_
    rintro e w6 ⟨rfl, hp⟩
    have HP := Lib.hid (RfP.trans HT5.out hp)
    clear hp
    go_wp2_with fail
    go_ret
    rw [HE.out]
    rw [HSM.out] at HP
    exact ⟨rfl, HP.out⟩
  · have HE := Lib.hid (show pushS s q = (0, hitS (putA s q)) by unfold pushS; rw [if_neg hhit])
    have hhit' : hitB s = false := by simpa using hhit
    rw [hhit']
    clear hhit hhit'
    go_wp2_with fail
    go_ret
    rw [HE.out]
    exact ⟨rfl, _, _, HY4.out.toX, HT4.out⟩
theorem radd_in {w w1 : World} {x : Nat} {M D : Nat → Prop} {s : DkS} {v : Value} {q : ActS} (h : RfX w x M D s) (hx : Ext w w1) (hv : Rs kByte w1 (fun k => w.heap.size ≤ k ∧ k < w1.heap.size) v q.data)
    (hfit : fit1 s.seen q) (hroom : (s.used : Int) + q.data.length ≤ s.room) (hn : s.acts.length ≤ 1000000) (hpl : (∀ n i, q.k ≠ .wr n i) → q.data = []) :
    Calls Try.prog 64 #[ptr x, .agg (ractC q.k v)] w1 fun e w' => e = .returned (.int .i64 (pushS s q).1) ∧ RfP w x M D w' (pushS s q).2 := by
  obtain ⟨z, lv, av, h⟩ := h
  have h1 := (h.ext hx).moreD (E := fun k => w.heap.size ≤ k ∧ k < w1.heap.size) (fun k hk hm => by have := h.ltM k hm; omega) (fun k hk => hk.2)
  refine (radd_calls w1 x M _ s q v h1.toX (hv.mono fun _ h => .inr h) hfit hroom hn hpl).mono ?_
  rintro e w' ⟨rfl, hp⟩
  exact ⟨rfl, RfP.trans ⟨hx.upd M, fun _ h => .inl h, fun k hk => hk.elim .inl fun h => .inr h.1⟩ hp⟩
end Go.Proofs.Ytjjhmknlhfijjaa
set_option linter.unusedVariables false
set_option linter.unusedSimpArgs false
namespace Go.Proofs.Ytjjhmknlhfijjaa
open Go.RowKit

set_option maxHeartbeats 1000000 in
theorem RCrash_calls (w : World) (x : Nat) (M D : Nat → Prop) (s : DkS) (keep tear : Int) (h : RfX w x M D s) (hk : I64 keep) (ht : I64 tear) :
    Calls Try.prog 39 #[ptr x, .int .i64 keep, .int .i64 tear] w fun e w' => e = .returned (.int .i64 (crashS s keep tear).1) ∧ RfP w x M D w' (crashS s keep tear).2 := by
  have HX := Lib.hid h
  obtain ⟨z, lv, av, h⟩ := h
  have hb := h.blk
  have hc3 : w.cell? ⟨x, 3, none⟩ = some (.bool s.off) := cell_blk hb 3
  have hlt := blk_lt hb
  clear hb h
  unfold ptr
  rcases ho : s.off with _ | _
  · rw [ho] at hc3
    have HU := Lib.hid (show crashS s keep tear = (0, fallS s keep tear) by unfold crashS; rw [ho]; rfl)
    clear ho
    go_enter Try.func39, Try.ntmps39
    go_wp2_with fail
    refine (Fall_calls w x M D s keep tear HX.out hk ht).mono ?_
    rintro e w' ⟨rfl, hp⟩
    have HP := Lib.hid hp
    clear hp hc3
    go_wp2_with fail
    go_ret
    rw [HU.out]
    exact ⟨rfl, HP.out⟩
  · rw [ho] at hc3
    have HU := Lib.hid (show crashS s keep tear = (22, s) by unfold crashS; rw [ho]; rfl)
    clear ho
    go_enter Try.func39, Try.ntmps39
    go_wp2_with fail
    go_ret
    rw [HU.out]
    exact ⟨rfl, HX.out.p⟩
set_option maxHeartbeats 1000000 in
theorem RStart_calls (w : World) (x : Nat) (M D : Nat → Prop) (s : DkS) (h : RfX w x M D s) :
    Calls Try.prog 40 #[ptr x] w fun e w' => e = .returned (.int .i64 0) ∧ RfP w x M D w' (startS s) := by
  obtain ⟨z, lv, av, h⟩ := h
  have hb := h.blk
  have hlt := blk_lt hb
  have hc3 : w.cell? ⟨x, 3, none⟩ = some (.bool s.off) := cell_blk hb 3
  have hz3 : w.frozen? ⟨x, 3, none⟩ = false := frozen_blk hb 3
  have HW := Lib.hid (show RfP w x M D (w.setCell ⟨x, 3, none⟩ (.bool false)) (startS s) from by
    have hu : Upd (fun k => k = x) w (w.setCell ⟨x, 3, none⟩ (.bool false)) := (Upd.refl (fun k => k = x) w).set (g := x) (.inl rfl) _
    exact ⟨M, D, (h.turn hu (s' := startS s) rfl rfl rfl (heap_setCell_same w x 3 _ _ (.bool false) hb) (start_ok h.ok) h.num h.same).toX, hu.mono (by rintro k rfl; exact h.inM k (.inl rfl)), fun _ h => .inl h, fun _ h => .inl h⟩)
  clear hb h
  unfold ptr
  go_enter Try.func40, Try.ntmps40
  go_wp2_with fail
  go_ret
  exact ⟨rfl, HW.out⟩
set_option maxHeartbeats 1000000 in
theorem RArm_calls (w : World) (x : Nat) (M D : Nat → Prop) (s : DkS) (n keep tear : Int) (h : RfX w x M D s) (hn : I64 n) (hk : I64 keep) (ht : I64 tear) :
    Calls Try.prog 38 #[ptr x, .int .i64 n, .int .i64 keep, .int .i64 tear] w fun e w' => e = .returned (.int .i64 (armS s n keep tear).1) ∧ RfP w x M D w' (armS s n keep tear).2 := by
  have HX := Lib.hid h
  obtain ⟨z, lv, av, h⟩ := h
  have HH := Lib.hid h
  have hb := h.blk
  have hlt := blk_lt hb
  have hc3 : w.cell? ⟨x, 3, none⟩ = some (.bool s.off) := cell_blk hb 3
  have hc4 : w.cell? ⟨x, 4, none⟩ = some (.int .i64 s.left) := cell_blk hb 4
  have hc5 : w.cell? ⟨x, 5, none⟩ = some (.int .i64 z.keep) := cell_blk hb 5
  have hc6 : w.cell? ⟨x, 6, none⟩ = some (.int .i64 z.tear) := cell_blk hb 6
  have hz : ∀ i, w.frozen? ⟨x, i, none⟩ = false := fun i => frozen_blk hb i
  clear hb h
  unfold ptr
  rcases ho : s.off with _ | _
  · rw [ho] at hc3
    have HU := Lib.hid (show armS s n keep tear = (0, { s with left := max n 0, keep := keep, tear := tear }) by unfold armS; rw [ho]; rfl)
    have HW := Lib.hid (show RfP w x M D (((w.setCell ⟨x, 4, none⟩ (.int .i64 (max n 0))).setCell ⟨x, 5, none⟩ (.int .i64 keep)).setCell ⟨x, 6, none⟩ (.int .i64 tear)) { s with left := max n 0, keep := keep, tear := tear } from by
      have hu : Upd (fun k => k = x) w (((w.setCell ⟨x, 4, none⟩ (.int .i64 (max n 0))).setCell ⟨x, 5, none⟩ (.int .i64 keep)).setCell ⟨x, 6, none⟩ (.int .i64 tear)) := ((((Upd.refl (fun k => k = x) w).set (g := x) (.inl rfl) _).set (g := x) (.inl rfl) _).set (g := x) (.inl rfl) _)
      have hok := arm_ok HH.out.ok hn hk ht
      rw [HU.out] at hok
      exact ⟨M, D, (HH.out.turn hu (s' := { s with left := max n 0, keep := keep, tear := tear }) (z' := ⟨keep, tear⟩) rfl rfl rfl (heap_setCell_same _ x 6 _ _ _ (heap_setCell_same _ x 5 _ _ _ (heap_setCell_same w x 4 _ _ _ HH.out.blk))) hok ⟨hk, ht⟩ (fun _ => ⟨rfl, rfl⟩)).toX, hu.mono (by rintro k rfl; exact HH.out.inM k (.inl rfl)), fun _ h => .inl h, fun _ h => .inl h⟩)
    clear ho hn hk ht
    go_enter Try.func38, Try.ntmps38
    go_wp2_with fail
    go_ret
    rw [HU.out]
    exact ⟨rfl, HW.out⟩
  · rw [ho] at hc3
    have HU := Lib.hid (show armS s n keep tear = (22, s) by unfold armS; rw [ho]; rfl)
    clear ho hn hk ht
    go_enter Try.func38, Try.ntmps38
    go_wp2_with fail
    go_ret
    rw [HU.out]
    exact ⟨rfl, HX.out.p⟩
set_option maxHeartbeats 2000000 in
theorem RDrop_calls (w : World) (x : Nat) (M D : Nat → Prop) (s : DkS) (n : Nam) (h : RfX w x M D s) (hn : n.length ≤ 9223372036854775807) (hc : s.acts.length ≤ 1000000) :
    Calls Try.prog 36 #[ptr x, .string ⟨n.toArray⟩] w fun e w' => e = .returned (.int .i64 (dropS s n).1) ∧ RfP w x M D w' (dropS s n).2 := by
  have HH := Lib.hid h
  have HC := Lib.hid hc
  have HFI := Lib.hid (why_calls w x M D s n h hn)
  have hlt := h.lt
  clear h hn hc
  unfold ptr at HFI ⊢
  by_cases hf : findF s n = 0
  · have HF := Lib.hid hf
    have HU := Lib.hid (show dropS s n = pushS s ⟨.dp n, []⟩ by unfold dropS; rw [if_pos hf])
    clear hf
    go_enter Try.func36, Try.ntmps36
    go_wp2_with fail
    refine HFI.out.mono ?_
    rw [HF.out]
    rintro e w2 ⟨rfl, hx2⟩
    have HX2 := Lib.hid hx2
    clear hx2
    go_wp2_with fail
    refine (radd_in (q := ⟨.dp n, []⟩) HH.out HX2.out (Rs.nil _ _ _) (drop_fits HH.out.ok HF.out).1 (none_room HH.out.ok) HC.out (fun _ => rfl)).mono ?_
    rintro e w3 ⟨rfl, hp⟩
    have HP := Lib.hid hp
    clear hp
    go_wp2_with fail
    go_ret
    rw [HU.out]
    exact ⟨rfl, HP.out⟩
  · have HU := Lib.hid (show dropS s n = (findF s n, s) by unfold dropS; rw [if_neg hf])
    obtain ⟨r, hr⟩ : ∃ r, r = findF s n := ⟨_, rfl⟩
    rw [← hr] at hf
    have hf2 : (r != 0) = true := bne_iff_ne.2 hf
    have HR := Lib.hid hr
    clear hr hf
    go_enter Try.func36, Try.ntmps36
    go_wp2_with fail
    refine HFI.out.mono ?_
    rw [← HR.out]
    rintro e w2 ⟨rfl, hx2⟩
    have HX2 := Lib.hid hx2
    clear hx2
    go_wp2_with fail
    go_ret
    rw [HU.out, HR.out]
    exact ⟨rfl, HH.out.extp HX2.out⟩
set_option maxHeartbeats 2000000 in
theorem RMove_calls (w : World) (x : Nat) (M D : Nat → Prop) (s : DkS) (n t : Nam) (h : RfX w x M D s) (hn : n.length ≤ 9223372036854775807) (ht : t.length ≤ 9223372036854775807) (hc : s.acts.length ≤ 1000000) :
    Calls Try.prog 35 #[ptr x, .string ⟨n.toArray⟩, .string ⟨t.toArray⟩] w fun e w' => e = .returned (.int .i64 (moveS s n t).1) ∧ RfP w x M D w' (moveS s n t).2 := by
  have HH := Lib.hid h
  have HC := Lib.hid hc
  have HT := Lib.hid ht
  have HFI := Lib.hid (why_calls w x M D s n h hn)
  have hlt := h.lt
  clear h hn hc ht
  unfold ptr at HFI ⊢
  by_cases hf : findF s n = 0
  · have HF := Lib.hid hf
    clear hf
    go_enter Try.func35, Try.ntmps35
    go_wp2_with fail
    refine HFI.out.mono ?_
    rw [HF.out]
    rintro e w2 ⟨rfl, hx2⟩
    have HX2 := Lib.hid hx2
    clear hx2
    by_cases hm : mayF t = true
    · have HM := Lib.hid hm
      have HU := Lib.hid (show moveS s n t = pushS s ⟨.mv n t, []⟩ by unfold moveS moveF; rw [if_pos HF.out, if_pos hm, if_pos rfl])
      have HMF := Lib.hid (show moveF s n t = 0 by unfold moveF; rw [if_pos HF.out, if_pos hm])
      clear hm
      go_wp2_with fail
      refine (RName_calls w2 t HT.out).mono ?_
      rw [HM.out]
      rintro e w3 ⟨rfl, rfl⟩
      go_wp2_with fail
      refine (radd_in (q := ⟨.mv n t, []⟩) HH.out HX2.out (Rs.nil _ _ _) (move_fits HH.out.ok HMF.out).1 (none_room HH.out.ok) HC.out (fun _ => rfl)).mono ?_
      rintro e w4 ⟨rfl, hp⟩
      have HP := Lib.hid hp
      clear hp
      go_wp2_with fail
      go_ret
      rw [HU.out]
      exact ⟨rfl, HP.out⟩
    · have HM := Lib.hid (show mayF t = false by simpa using hm)
      have HU := Lib.hid (show moveS s n t = (20, s) by unfold moveS moveF; rw [if_pos HF.out, if_neg hm, if_neg (by decide)])
      clear hm
      go_wp2_with fail
      refine (RName_calls w2 t HT.out).mono ?_
      rw [HM.out]
      rintro e w3 ⟨rfl, rfl⟩
      go_wp2_with fail
      go_ret
      rw [HU.out]
      exact ⟨rfl, HH.out.extp HX2.out⟩
  · have HU := Lib.hid (show moveS s n t = (findF s n, s) by unfold moveS moveF; rw [if_neg hf, if_neg hf])
    obtain ⟨r, hr⟩ : ∃ r, r = findF s n := ⟨_, rfl⟩
    rw [← hr] at hf
    have hf2 : (r != 0) = true := bne_iff_ne.2 hf
    have HR := Lib.hid hr
    clear hr hf
    go_enter Try.func35, Try.ntmps35
    go_wp2_with fail
    refine HFI.out.mono ?_
    rw [← HR.out]
    rintro e w2 ⟨rfl, hx2⟩
    have HX2 := Lib.hid hx2
    clear hx2
    go_wp2_with fail
    go_ret
    rw [HU.out, HR.out]
    exact ⟨rfl, HH.out.extp HX2.out⟩
set_option maxHeartbeats 2000000 in
theorem RTrim_calls (w : World) (x : Nat) (M D : Nat → Prop) (s : DkS) (n : Nam) (a : Int) (h : RfX w x M D s) (hn : n.length ≤ 9223372036854775807) (ha : I64 a) (hc : s.acts.length ≤ 1000000) :
    Calls Try.prog 34 #[ptr x, .string ⟨n.toArray⟩, .int .i64 a] w fun e w' => e = .returned (.int .i64 (trimS s n a).1) ∧ RfP w x M D w' (trimS s n a).2 := by
  have HH := Lib.hid h
  have HC := Lib.hid hc
  have HFI := Lib.hid (why_calls w x M D s n h hn)
  have hlt := h.lt
  clear h hn hc
  unfold ptr at HFI ⊢
  by_cases hf : findF s n = 0
  · have HF := Lib.hid hf
    clear hf
    go_enter Try.func34, Try.ntmps34
    go_wp2_with fail
    refine HFI.out.mono ?_
    rw [HF.out]
    rintro e w2 ⟨rfl, hx2⟩
    have HX2 := Lib.hid hx2
    obtain ⟨z, lv, av, hy2⟩ := HH.out.ext hx2
    have HFS := Lib.hid (Files_calls w2 x M D s z lv av hy2)
    clear hx2 hy2
    go_wp2_with fail
    refine HFS.out.mono ?_
    rintro e w3 ⟨u, rfl, hu, hx3⟩
    have HU3 := Lib.hid hu
    have HX3 := Lib.hid (HX2.out.trans hx3)
    clear hu hx3
    go_wp2_with fail
    refine (get_calls w3 _ u s.seen n HU3.out).mono ?_
    rintro e w4 ⟨A, c, rfl, -, hx4⟩
    have HX4 := Lib.hid (HX3.out.trans hx4)
    obtain ⟨m, hm⟩ : ∃ m, m = (bytesK s.seen n).length := ⟨_, rfl⟩
    rw [← hm]
    have HML := Lib.hid (show s.len n = m from hm.symm)
    have hmb : m ≤ 1073741824 := by
      have h1 := HH.out.ok.len_le n
      have h2 := HH.out.ok.most
      rw [HML.out] at h1
      omega
    clear hm hx4
    by_cases h0 : a < 0
    · have hd : decide (a < 0) = true := decide_eq_true h0
      have HU := Lib.hid (show trimS s n a = (1, s) by have e : trimF s n a = 1 := by { unfold trimF; rw [if_pos HF.out, if_pos (.inl h0)] }; unfold trimS; rw [e, if_neg (by decide)])
      go_wp2_with fail
      go_ret
      rw [HU.out]
      exact ⟨rfl, HH.out.extp HX4.out⟩
    · have hd : decide (a < 0) = false := decide_eq_false h0
      by_cases h1 : (m : Int) < a
      · have HU := Lib.hid (show trimS s n a = (1, s) by have e : trimF s n a = 1 := by { unfold trimF; rw [if_pos HF.out, if_pos (.inr (by rw [HML.out]; exact h1))] }; unfold trimS; rw [e, if_neg (by decide)])
        have hd1 : decide ((m : Int) < a) = true := decide_eq_true h1
        go_wp2_with fail
        go_ret
        rw [HU.out]
        exact ⟨rfl, HH.out.extp HX4.out⟩
      · have HTF := Lib.hid (show trimF s n a = 0 by unfold trimF; rw [if_pos HF.out, if_neg (by rw [HML.out]; omega)])
        have HU := Lib.hid (show trimS s n a = pushS s ⟨.tr n a.toNat, []⟩ by unfold trimS; rw [if_pos HTF.out])
        have HA := Lib.hid (show (a.toNat : Int) = a by omega)
        have hd1 : decide ((m : Int) < a) = false := decide_eq_false h1
        have HAD := Lib.hid (radd_in (v := .slice none 0 0) (q := ⟨.tr n a.toNat, []⟩) HH.out HX4.out (Rs.nil _ _ _) (trim_fits HH.out.ok HTF.out).1 (none_room HH.out.ok) HC.out (fun _ => rfl))
        unfold ractC rkind rname rto rat at HAD
        simp only [HA.out] at HAD
        go_wp2_with fail
        refine HAD.out.mono ?_
        rintro e w5 ⟨rfl, hp⟩
        have HP := Lib.hid hp
        clear hp
        go_wp2_with fail
        go_ret
        rw [HU.out]
        exact ⟨rfl, HP.out⟩
  · have HU := Lib.hid (show trimS s n a = (findF s n, s) by unfold trimS trimF; rw [if_neg hf, if_neg hf])
    obtain ⟨r, hr⟩ : ∃ r, r = findF s n := ⟨_, rfl⟩
    rw [← hr] at hf
    have hf2 : (r != 0) = true := bne_iff_ne.2 hf
    have HR := Lib.hid hr
    clear hr hf
    go_enter Try.func34, Try.ntmps34
    go_wp2_with fail
    refine HFI.out.mono ?_
    rw [← HR.out]
    rintro e w2 ⟨rfl, hx2⟩
    have HX2 := Lib.hid hx2
    clear hx2
    go_wp2_with fail
    go_ret
    rw [HU.out, HR.out]
    exact ⟨rfl, HH.out.extp HX2.out⟩
/-- What is read of the reference's disk. (No law reads it; kept for the record.) -/
theorem bytesK_isSome {s : DkS} {n : Nam} (h : findF s n = 0) : (getK s.seen n).isSome = true := (find_iff.1 h).2.2
end Go.Proofs.Ytjjhmknlhfijjaa
