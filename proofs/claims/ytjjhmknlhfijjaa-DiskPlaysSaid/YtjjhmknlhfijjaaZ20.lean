/-
  Texts of this claim, put together: DrOps2.
-/
import Derived.Test.YtjjhmknlhfijjaaZ19
import Derived.Test.YtjjhmknlhfijjaaZ7
set_option linter.unusedVariables false
set_option linter.unusedSimpArgs false
namespace Go.Proofs.Ytjjhmknlhfijjaa
open Go.RowKit

theorem sumK_snoc (L : KL Nam) (k : Nat) (h : k < L.length) : sumK (L.take (k + 1)) = sumK (L.take k) + L[k].2.length := by
  rw [List.take_succ_eq_append_getElem h]
  simp only [sumK, List.map_append, List.sum_append, List.map_cons, List.map_nil, List.sum_cons, List.sum_nil]
  omega
theorem sumK_take (L : KL Nam) (k : Nat) : sumK (L.take k) ≤ sumK L := by
  have : sumK (L.take k ++ L.drop k) = sumK (L.take k) + sumK (L.drop k) := by simp only [sumK, List.map_append, List.sum_append]
  rw [List.take_append_drop] at this
  omega
set_option maxRecDepth 100000 in
set_option maxHeartbeats 2000000 in
theorem RUsed_calls (w : World) (x : Nat) (M D : Nat → Prop) (s : DkS) (h : RfX w x M D s) :
    Calls Try.prog 68 #[ptr x] w fun e w' => e = .returned (.int .i64 (usedF s)) ∧ Ext w w' := by
  obtain ⟨z, lv, av, h⟩ := h
  obtain ⟨A, c, e, hl1, hl2, hl3, -⟩ := h.acts.rs
  subst e
  obtain ⟨Al, cl, e, hm1, hm2, hm3, -⟩ := id h.files
  subst e
  have HH := Lib.hid h
  have hb := h.blk
  have hc1 : w.cell? ⟨x, 1, none⟩ = some (.slice Al s.last.length cl) := cell_blk hb 1
  have hc3 : w.cell? ⟨x, 3, none⟩ = some (.bool s.off) := cell_blk hb 3
  have hlt := blk_lt hb
  clear hb h
  unfold ptr
  rcases ho : s.off with _ | _
  · rw [ho] at hc3
    have HU := Lib.hid (show usedF s = (sumK s.last + costs s.acts : Nat) by unfold usedF DkS.used; rw [ho]; rfl)
    have HB := Lib.hid (show sumK s.last + costs s.acts ≤ 1073741824 by have h1 := HH.out.ok.room; have h2 := HH.out.ok.most; unfold DkS.used at h1; omega)
    clear ho
    go_enter Try.func68, Try.ntmps68
    go_wp2_with fail
    go_loopw [3, 17] (fun n i wr => ∃ k : Nat, k ≤ s.last.length ∧ i = .int .i64 k ∧ n = .int .i64 ((sumK (s.last.take k) : Nat) : Int) ∧ Hid (Ext w wr)) (fun _ i _ => s.last.length - (intOf i).toNat)
    case atStart => exact ⟨0, Nat.zero_le _, rfl, by simp [sumK], Lib.hid (Ext.refl _)⟩
    case round =>
      clear hc1 hc3
      obtain ⟨k, hk, rfl, rfl, HX⟩ := hrel
      by_cases hlt2 : k < s.last.length
      · obtain ⟨ad, Ab, cb, rfl, x0, x1, hbt, hn⟩ := (HH.out.ext HX.out).files.shape.2.2.2.2.file (j := k) hlt2
        have HSN := Lib.hid (sumK_snoc s.last k hlt2)
        have hle1 : sumK (s.last.take k) + s.last[k].2.length ≤ 1073741824 := by
          have h1 := sumK_snoc s.last k hlt2
          have h2 := sumK_take s.last (k + 1)
          have h3 := HB.out
          omega
        obtain ⟨a, ha⟩ : ∃ a, a = sumK (s.last.take k) := ⟨_, rfl⟩
        rw [← ha] at hle1 ⊢
        have HA := Lib.hid ha
        clear hbt hn ha
        go_wp2_with fail
        go_roundw
        case rel => exact ⟨k + 1, by omega, by go_num, by rw [HSN.out]; have := HA.out; congr 1; omega, Lib.hid (HX.out.alloc _)⟩
        case measure => simp [intOf]; omega
      · obtain rfl : k = s.last.length := by omega
        rw [List.take_length]
        have hc2 : wr.cell? ⟨x, 2, none⟩ = some (.slice A s.acts.length c) := cell_blk (blk_ext HH.out.blk HX.out) 2
        have hltr := Nat.lt_of_lt_of_le hlt HX.out.le
        obtain ⟨sl, hsl⟩ : ∃ a, a = sumK s.last := ⟨_, rfl⟩
        have HSL := Lib.hid hsl
        rw [← hsl] at HB ⊢
        clear hlt2 hsl
        go_wp2_with fail
        go_loopw [3, 32] (fun n i wr => ∃ k : Nat, k ≤ s.acts.length ∧ i = .int .i64 k ∧ n = .int .i64 ((sl + costs (s.acts.take k) : Nat) : Int) ∧ Hid (Ext w wr)) (fun _ i _ => s.acts.length - (intOf i).toNat)
        case atStart => exact ⟨0, Nat.zero_le _, rfl, by simp [costs], HX⟩
        case round =>
          clear HX hc2 hltr
          obtain ⟨k, hk, rfl, rfl, HX⟩ := hrel
          by_cases hlt2 : k < s.acts.length
          · obtain ⟨ad, Ab, cb, rfl, hd, x0, x1, x2, x3, x4⟩ := (HH.out.ext HX.out).acts.rs.shape.2.2.2.2.ractE (j := k) hlt2
            have HSN := Lib.hid (costs_snoc s.acts k hlt2)
            have hle2 : sl + costs (s.acts.take k) + s.acts[k].data.length ≤ 1073741824 := by
              have h1 := costs_snoc s.acts k hlt2
              have h2 := costs_take s.acts (k + 1)
              have h3 := HB.out
              omega
            obtain ⟨a, ha⟩ : ∃ a, a = sl + costs (s.acts.take k) := ⟨_, rfl⟩
            rw [← ha] at hle2 ⊢
            have HA := Lib.hid ha
            clear hd ha
            go_wp2_with fail
            go_roundw
            case rel => exact ⟨k + 1, by omega, by go_num, by rw [HSN.out]; have := HA.out; congr 1; omega, Lib.hid (HX.out.alloc _)⟩
            case measure => simp [intOf]; omega
          · obtain rfl : k = s.acts.length := by omega
            rw [List.take_length]
            have HU2 := Lib.hid (show usedF s = ((sl + costs s.acts : Nat) : Int) by rw [HU.out, HSL.out])
            rw [← HU2.out]
            clear hlt2
            go_wp2_with fail
            go_ret
            exact ⟨rfl, HX.out⟩
  · rw [ho] at hc3
    have HU := Lib.hid (show usedF s = 0 by unfold usedF; rw [ho]; rfl)
    clear ho
    go_enter Try.func68, Try.ntmps68
    go_wp2_with fail
    go_ret
    rw [HU.out]
    exact ⟨rfl, Ext.refl _⟩
/-- The names of the files. -/
def RLsP (w : World) (s : DkS) (e : Ending) (w' : World) : Prop := ∃ v, e = .returned v ∧ Rs kStr w' (fun _ => True) v (listF s) ∧ Ext w w'
theorem Rs.one_str {w : World} {g : Nat} {t : TypeId} {n : Nam} (hb : w.heap[g]? = some (.cells #[.string ⟨n.toArray⟩] t (0, 0))) (hn : n.length ≤ 9223372036854775807) : Rs kStr w (fun k => k = g) (.slice (some ⟨g, 0, none⟩) 1 1) [n] :=
  ⟨_, 1, rfl, by simp, by omega, by simp, Row.of_block (S := fun k => k = g) hb rfl fun j y hj => by
    cases j with
    | zero =>
      simp at hj
      subst hj
      exact ⟨[.string ⟨n.toArray⟩], ⟨rfl, hn⟩, fun i u hi => by simpa using hi⟩
    | succ j => simp at hj⟩
set_option maxRecDepth 100000 in
set_option maxHeartbeats 2000000 in
theorem RList_calls (w : World) (x : Nat) (M D : Nat → Prop) (s : DkS) (h : RfX w x M D s) : Calls Try.prog 70 #[ptr x] w (RLsP w s) := by
  obtain ⟨z, lv, av, h⟩ := h
  have HH := Lib.hid h
  have hb := h.blk
  have hc3 : w.cell? ⟨x, 3, none⟩ = some (.bool s.off) := cell_blk hb 3
  have hlt := blk_lt hb
  have HLN := Lib.hid h.ok.seen_len
  have HFS := Lib.hid (Files_calls w x M D s z lv av h)
  clear hb h
  unfold ptr at HFS ⊢
  rcases ho : s.off with _ | _
  · rw [ho] at hc3
    have HU := Lib.hid (show listF s = s.seen.map (·.1) by unfold listF; rw [ho]; rfl)
    clear ho
    go_enter Try.func70, Try.ntmps70
    go_wp2_with fail
    refine HFS.out.mono ?_
    rintro e w2 ⟨u, rfl, hu, hx2⟩
    obtain ⟨A, c, rfl, hl, hcc, hz, hrow⟩ := hu
    have HR := Lib.hid hrow
    have HX2 := Lib.hid hx2
    clear hrow hx2 hc3
    obtain ⟨L, hL⟩ : ∃ L, L = s.seen := ⟨_, rfl⟩
    rw [← hL] at HR hl hz HU HLN ⊢
    clear hL
    obtain ⟨NS, hNS⟩ : ∃ N, N = L.map (·.1) := ⟨_, rfl⟩
    rw [← hNS] at HU
    have hNL : NS.length = L.length := by rw [hNS, List.length_map]
    have HNA := Lib.hid (show ∀ (k : Nat) (h : k < L.length), NS.take (k + 1) = NS.take k ++ [L[k].1] from fun k h => by
      rw [List.take_succ_eq_append_getElem (by rw [hNL]; exact h)]
      congr 2
      simp only [hNS, List.getElem_map])
    have HNL := Lib.hid hNL
    clear hNS hNL
    go_wp2_with fail
    go_loopw [3, 14] (fun u i wr => ∃ k : Nat, k ≤ L.length ∧ i = .int .i64 k ∧ Hid (Ow kStr 9 wr w2.heap.size (w2.heap.size ≤ ·) u (NS.take k)) ∧ Hid (Ext w2 wr)) (fun _ i _ => L.length - (intOf i).toNat)
    case atStart => exact ⟨0, Nat.zero_le _, rfl, Lib.hid (Ow.nil _ _ _ _ _), Lib.hid (Ext.refl _)⟩
    case round =>
      obtain ⟨k, hk, rfl, HO, HX⟩ := hrel
      by_cases hlt2 : k < L.length
      · obtain ⟨ad, Ab, cb, rfl, x0, x1, hbt, hn⟩ := (HR.out.keep (w' := wr) fun b _ hl => HX.out.block b hl).file hlt2
        have HNM := Lib.hid hn
        have HTK := Lib.hid (HNA.out k hlt2)
        have HTL := Lib.hid (show (NS.take k).length ≤ 4096 by rw [List.length_take]; have := HLN.out; have := HNL.out; omega)
        obtain ⟨y, hy⟩ : ∃ y, y = L[k] := ⟨_, rfl⟩
        rw [← hy] at x0 x1 HTK HNM
        clear hbt hn hy
        obtain ⟨w3, hw3⟩ : ∃ w3, w3 = (wr.alloc (.cells #[.string ⟨y.1.toArray⟩, .slice Ab y.2.length cb] 101)).alloc (.cells #[.string ⟨y.1.toArray⟩] 9) := ⟨_, rfl⟩
        have hx3 : Ext wr w3 := by rw [hw3]; exact ((Ext.refl _).alloc _).alloc _
        have hb3 : w3.heap[wr.heap.size + 1]? = some (.cells #[.string ⟨y.1.toArray⟩] 9 (0, 0)) := by rw [hw3]; exact heap_new _ _ (by simp) _
        have HLIT := Lib.hid (Rs.one_str hb3 HNM.out)
        have HO3 := Lib.hid (HO.out.ext hx3)
        have HX3 := Lib.hid (HX.out.trans hx3)
        have HW3 := Lib.hid hw3
        have HST := Lib.hid (show ∀ a cs, kStr.K w3 (fun k => k = wr.heap.size + 1) a cs → kStr.K w3 (fun b => w2.heap.size ≤ b ∧ some b ≠ u3.ownBlock) a cs from fun a cs ha => kStr.mono (fun b hb => by
          subst hb
          have h1 := HX.out.le
          refine ⟨by omega, fun e => ?_⟩
          have := HO.out.lt _ e.symm; omega) ha)
        clear hx3 hb3 hw3
        go_wp2_with (at_builtin; rw [← HW3.out]; refine wpList_append_Rs kStr rfl (.tmp 18) (.tmp 21) 38 9 rfl tStrs w2.heap.size _ _ (NS.take k) [y.1] _ _ rfl rfl HO3.out HLIT.out HST.out (fun b hb => Nat.le_trans HX3.out.le hb) (by have := HTL.out; simp only [List.length_cons, List.length_nil]; omega) HX3.out.le ?_)
        intro v' w4 ho hg _
        have HO4 := Lib.hid ho
        have HX4 := Lib.hid (HX3.out.grown hg HO3.out.from_)
        rw [← HTK.out] at HO4
        clear ho hg
        go_wp2_with fail
        go_roundw
        case rel => exact ⟨k + 1, by omega, by go_num, HO4, HX4⟩
        case measure => simp [intOf]; omega
      · obtain rfl : k = L.length := by omega
        rw [← HNL.out, List.take_length] at HO
        clear hlt2
        go_wp2_with fail
        go_ret
        exact ⟨_, rfl, by rw [HU.out]; exact HO.out.rs.mono fun _ _ => trivial, HX2.out.trans HX.out⟩
  · rw [ho] at hc3
    have HU := Lib.hid (show listF s = [] by unfold listF; rw [ho]; rfl)
    clear ho
    go_enter Try.func70, Try.ntmps70
    go_wp2_with fail
    go_ret
    exact ⟨_, rfl, by rw [HU.out]; exact Rs.nil _ _ _, Ext.refl _⟩
theorem rsync_end {w1 w2 : World} {x : Nat} {M D : Nat → Prop} {s : DkS} {z : RfN} {lv av u : Value} (h : RfY w1 x M D s z lv av) (hf : Rs kFile w2 (fun b => (D b ∨ w1.heap.size ≤ b) ∧ b < w2.heap.size) u s.seen) (hx : Ext w1 w2) :
    RfP w1 x M D ((w2.setCell ⟨x, 1, none⟩ u).setCell ⟨x, 2, none⟩ (.slice none 0 0)) { s with last := s.seen, acts := [] } := by
  have b0 := blk_ext h.blk hx
  have b1' := heap_setCell_same w2 x 1 _ _ u b0
  have b2' := heap_setCell_same _ x 2 _ _ (.slice none 0 0) b1'
  have hu : Upd (fun k => k = x) w2 ((w2.setCell ⟨x, 1, none⟩ u).setCell ⟨x, 2, none⟩ (.slice none 0 0)) := (((Upd.refl (fun k => k = x) w2).set (g := x) (.inl rfl) _).set (g := x) (.inl rfl) _)
  generalize ((w2.setCell ⟨x, 1, none⟩ u).setCell ⟨x, 2, none⟩ (.slice none 0 0)) = W at *
  clear b1'
  have hxM : M x := h.inM x (.inl rfl)
  have hxl := h.ltM x hxM
  have hle2 := hx.le
  have hle3 := hu.le
  refine ⟨M, fun b => (D b ∨ w1.heap.size ≤ b) ∧ b < w2.heap.size, ⟨z, u, .slice none 0 0, ?_⟩, ?_⟩
  · constructor
    case blk => exact b2'
    case files =>
      refine hf.upd hu fun k hk e => ?_
      rcases hk.1 with h1 | h1
      · exact h.apart k h1 (e ▸ hxM)
      · omega
    case acts => exact RActR.nil _ _
    case inM =>
      rintro k (rfl | hk)
      · exact hxM
      · cases hk
    case apart =>
      rintro k ⟨h1, h2⟩ h3
      rcases h1 with h1 | h1
      · exact h.apart k h1 h3
      · have := h.ltM k h3; omega
    case ne => simp [Value.ownBlock]
    case ltM => exact fun k hk => by have := h.ltM k hk; omega
    case ltD => exact fun k hk => by have := hk.2; omega
    case ok => exact last_ok h.ok
    case num => exact h.num
    case same => exact h.same
    case most => exact h.most
    case plain => exact fun a ha => by cases ha
  · refine ⟨(hx.upd M).trans (hu.mono ?_), fun k hk => .inl hk, fun k hk => hk.1⟩
    rintro k rfl; exact hxM
set_option maxRecDepth 100000 in
set_option maxHeartbeats 4000000 in
theorem RSync_calls (w : World) (x : Nat) (M D : Nat → Prop) (s : DkS) (h : RfX w x M D s) :
    Calls Try.prog 37 #[ptr x] w fun e w' => e = .returned (.int .i64 (syncS s).1) ∧ RfP w x M D w' (syncS s).2 := by
  have HX := Lib.hid h
  obtain ⟨z, lv, av, h⟩ := h
  have HH := Lib.hid h
  have hb := h.blk
  have hlt := blk_lt hb
  have hc3 : w.cell? ⟨x, 3, none⟩ = some (.bool s.off) := cell_blk hb 3
  clear hb h
  unfold ptr
  rcases ho : s.off with _ | _
  · rw [ho] at hc3
    have HO := Lib.hid ho
    clear ho
    go_enter Try.func37, Try.ntmps37
    go_wp2_with fail
    refine (hit_calls w x M D s _ _ _ HH.out).mono ?_
    rintro e w4 ⟨rfl, hy4, hu4⟩
    have HY4 := Lib.hid hy4
    have HT4 := Lib.hid (show DkT w w4 M D M D from ⟨hu4.mono (by rintro k rfl; exact HH.out.inM k (.inl rfl)), fun _ h => .inl h, fun _ h => .inl h⟩)
    have hlt4 : x < w4.heap.size := blk_lt hy4.blk
    have hc5 : w4.cell? ⟨x, 5, none⟩ = some (.int .i64 z.keep) := cell_blk hy4.blk 5
    have hc6 : w4.cell? ⟨x, 6, none⟩ = some (.int .i64 z.tear) := cell_blk hy4.blk 6
    clear hy4 hu4 hc3
    by_cases hhit : hitB s = true
    · have HE := Lib.hid (show syncS s = (22, fallS s s.keep s.tear) by unfold syncS; rw [HO.out, if_pos hhit]; rfl)
      have HSM := Lib.hid (rfall_same HY4.out HH.out.same hhit)
      rw [hhit]
      clear hhit
      go_wp2_with fail
      have hx4 := (Ext.refl w4).drew
      go_still_tail 9, (by kernel_rfl)
      change wpList _ _ _ _ _ w4.drew
      have HY5 := Lib.hid (HY4.out.ext hx4)
      have HT5 := Lib.hid (HT4.out.trans (hx4.dkT _ _))
      clear hx4 hc5 hc6
      generalize w4.drew = w5 at *
      go_wp2_with fail
      refine (Fall_calls w5 x _ _ _ _ _ HY5.out.toX HH.out.num.1 HH.out.num.2).mono ?_
      rintro e w6 ⟨rfl, hp⟩
      have HP := Lib.hid (RfP.trans HT5.out hp)
      clear hp
      go_wp2_with fail
      go_ret
      rw [HE.out]
      rw [HSM.out] at HP
      exact ⟨rfl, HP.out⟩
    · have HE := Lib.hid (show syncS s = (0, { hitS s with last := s.seen, acts := [] }) by unfold syncS; rw [HO.out, if_neg hhit]; rfl)
      have hhit' : hitB s = false := by simpa using hhit
      rw [hhit']
      clear hc5 hc6 hhit hhit'
      go_wp2_with fail
      refine (Files_calls w4 x M D _ _ _ _ HY4.out).mono ?_
      rintro e w2 ⟨u, rfl, hf, hx2⟩
      have HP := Lib.hid (RfP.trans HT4.out (rsync_end HY4.out hf hx2))
      rw [hit_seen] at HP
      have hb2 := blk_ext HY4.out.blk hx2
      have hc1 : w2.cell? ⟨x, 1, none⟩ = some lv := cell_blk hb2 1
      have hc2 : w2.cell? ⟨x, 2, none⟩ = some av := cell_blk hb2 2
      have hz : ∀ i, w2.frozen? ⟨x, i, none⟩ = false := fun i => frozen_blk hb2 i
      have hlt2 : x < w2.heap.size := blk_lt hb2
      obtain ⟨A6, c6, e6, -⟩ := id hf
      rw [hit_seen] at e6
      obtain ⟨m6, hm6⟩ : ∃ m, m = s.seen.length := ⟨_, rfl⟩
      rw [← hm6] at e6
      subst e6
      clear hb2 hx2 hf hm6
      go_wp2_with fail
      go_ret
      rw [HE.out]
      exact ⟨rfl, HP.out⟩
  · rw [ho] at hc3
    have HU := Lib.hid (show syncS s = (22, s) by unfold syncS; rw [ho]; rfl)
    clear ho
    go_enter Try.func37, Try.ntmps37
    go_wp2_with fail
    go_ret
    rw [HU.out]
    exact ⟨rfl, HX.out.p⟩
/-- A new one. -/
def NewR (w : World) (room : Int) (e : Ending) (w' : World) : Prop :=
  ∃ x M D, e = .returned (.tuple #[ptr x, .int .i64 0]) ∧ RfX w' x M D (newS room) ∧ Ext w w' ∧ (∀ k, M k → w.heap.size ≤ k) ∧ ∀ k, D k → w.heap.size ≤ k
set_option maxHeartbeats 1000000 in
theorem RNew_calls (w : World) (room : Int) (h0 : 0 ≤ room) (h1 : room ≤ 16777216) : Calls Try.prog 32 #[.int .i64 room] w (NewR w room) := by
  have HW := Lib.hid (show RfX (w.alloc (.cells #[.int .i64 room, .slice none 0 0, .slice none 0 0, .bool false, .int .i64 0, .int .i64 0, .int .i64 0] 91)) w.heap.size (fun k => k = w.heap.size) (fun _ => False) (newS room) from by
    refine ⟨⟨0, 0⟩, .slice none 0 0, .slice none 0 0, ?_⟩
    constructor
    case blk => exact heap_alloc_new _ _
    case files => exact Rs.nil _ _ _
    case acts => exact RActR.nil _ _
    case inM =>
      rintro k (rfl | hk)
      · rfl
      · cases hk
    case apart => exact fun k hk => hk.elim
    case ne => simp [Value.ownBlock]
    case ltM => rintro k rfl; simp only [World.size_alloc]; omega
    case ltD => exact fun k hk => hk.elim
    case ok => exact new_ok h0 (by omega)
    case num => exact ⟨by constructor <;> simp, by constructor <;> simp⟩
    case same => exact fun e => absurd rfl e
    case most => exact h1
    case plain => exact fun a ha => by cases ha)
  go_enter Try.func32, Try.ntmps32
  go_wp2_with fail
  go_ret2
  exact ⟨_, _, _, rfl, HW.out, (Ext.refl w).alloc _, by rintro k rfl; exact Nat.le_refl _, fun k hk => hk.elim⟩
set_option maxHeartbeats 1000000 in
theorem RNew_none (w : World) (room : Int) (h : room < 0 ∨ 16777216 < room) : Calls Try.prog 32 #[.int .i64 room] w fun e w' => e = .returned (.tuple #[.pointer none, .int .i64 1]) ∧ w = w' := by
  rcases h with h | h
  · go_enter Try.func32, Try.ntmps32
    go_wp2_with fail
    go_ret2
    exact ⟨rfl, rfl⟩
  · have h' : ¬ room < 0 := by omega
    go_enter Try.func32, Try.ntmps32
    go_wp2_with fail
    go_ret2
    exact ⟨rfl, rfl⟩
end Go.Proofs.Ytjjhmknlhfijjaa
