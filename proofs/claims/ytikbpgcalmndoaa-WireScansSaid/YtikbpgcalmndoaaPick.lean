/-
  wire.Pick.
-/
import Derived.Test.YtikbpgcalmndoaaRecord
import Derived.Test.YtikbpgcalmndoaaNobody
import Derived.Test.YtikbpgcalmndoaaArr
import Derived.Deep.RegionHeld3
import Derived.IntWalk
set_option linter.unusedVariables false
set_option linter.unusedSimpArgs false
namespace Go.Proofs.Ytikbpgcalmndoaa
open Go.RowKit

set_option maxRecDepth 100000 in
set_option maxHeartbeats 1000000 in
theorem Pick_calls (w : World) (S : Nat → Prop) (v : Value) (b : List UInt8) (hr : Rs kByte w S v b) :
    Calls Try.prog 34 #[v] w fun e w' => ∃ u, e = .returned (.tuple #[u, .int .i64 ((pick b).2.1 : Int), .int .i64 ((pick b).2.2 : Int)]) ∧ Ow kByte 5 w' w.heap.size (w.heap.size ≤ ·) u (pick b).1 ∧ Ext w w' := by
  have HR := Lib.hid hr
  obtain ⟨A, c, rfl, hl, hc, hz, hrow⟩ := hr
  by_cases h0 : b.length = 0
  · have hx : pick b = ([], 0, 2) := by unfold pick; rw [if_pos h0]
    rw [hx]
    clear hx hrow
    have h0' : ((b.length : Int) == 0) = true := beq_iff_eq.2 (by omega)
    go_enter Try.func34, Try.ntmps34
    go_wp2_with fail
    go_ret3
    exact ⟨_, rfl, Ow.nil _ _ _ _ _, Ext.refl _⟩
  obtain ⟨ad, rfl, hcell⟩ := hrow.byte (j := 0) (by omega)
  rw [add_zero_addr] at hcell
  clear hrow
  have hlp : (0 : Int) < (b.length : Int) := by omega
  by_cases h93 : b[0]? ≠ some (byt 93)
  · have hx : pick b = ([], 0, 10) := by unfold pick; rw [if_neg h0, if_pos h93]
    rw [hx]
    have hne : ((b[0].toNat : Int) != 93) = true := by
      rw [bne_iff_ne]
      intro e
      apply h93
      rw [List.getElem?_eq_getElem (by omega)]
      congr 1
      apply UInt8.toNat.inj
      rw [byt_toNat]; omega
    clear hx h93
    go_enter Try.func34, Try.ntmps34
    go_wp2_with fail
    go_ret3
    exact ⟨_, rfl, Ow.nil _ _ _ _ _, Ext.refl _⟩
  have hb0 : (b[0].toNat : Int) = 93 := by
    rw [ne_eq, Classical.not_not, List.getElem?_eq_getElem (by omega)] at h93
    injection h93 with h93
    rw [h93, byt_toNat]; rfl
  rw [hb0] at hcell
  have hs : ScS.number ⟨b.drop 1, 0, 0⟩ = ((rd (b.drop 1)).1, ⟨b.drop 1, (rd (b.drop 1)).2.1, (rd (b.drop 1)).2.2⟩) := by simp [ScS.number]
  have hx : pick b = if (rd (b.drop 1)).2.2 ≠ 0 then ([], 0, (rd (b.drop 1)).2.2) else
      if 65536 < (rd (b.drop 1)).1 then ([], 0, 4) else
      if b.length < 1 + (rd (b.drop 1)).2.1 + (rd (b.drop 1)).1 + 4 then ([], 0, 2) else
      if (b.drop (1 + (rd (b.drop 1)).2.1 + (rd (b.drop 1)).1)).take 4 ≠ be4 (crc (b.take (1 + (rd (b.drop 1)).2.1 + (rd (b.drop 1)).1))) then ([], 0, 11) else
      ((b.drop (1 + (rd (b.drop 1)).2.1)).take (rd (b.drop 1)).1, 1 + (rd (b.drop 1)).2.1 + (rd (b.drop 1)).1 + 4, 0) := by
    unfold pick; rw [if_neg h0, if_neg h93]
  have hbd := rd_bd (b.drop 1)
  rw [List.length_drop] at hbd
  generalize rd (b.drop 1) = r at hs hbd hx
  obtain ⟨n, k, e⟩ := r
  simp only at hs hbd hx
  have HX := Lib.hid hx
  obtain ⟨hn, hk, hz0, he10⟩ := hbd
  have HS := Lib.hid hs
  have HZ := Lib.hid hz0
  have H0 := Lib.hid h0
  clear hs hx hz0 h0 h93 hb0
  have hrest := HR.out.from_ (l := 1) rfl (by omega)
  have hs1 := slice_from tBytes (some ad) b.length c .i64 1 1 rfl (by omega)
  rw [partV_eq] at hrest
  simp only [partV_eq] at hs1
  have HREST := Lib.hid hrest
  clear hrest
  go_enter Try.func34, Try.ntmps34
  go_wp2_with fail
  refine (Over_calls w S _ (b.drop 1) (HREST.out)).mono ?_
  rintro e1 w1 ⟨p, q, rfl, hsc, he⟩
  have HSC := Lib.hid hsc
  have HE := Lib.hid he
  clear hsc he
  go_wp2_with fail
  refine (ScNumber_calls w1 _ p q _ HSC.out).mono ?_
  rw [HS.out]
  rintro e2 w2 ⟨rfl, hsc, hup⟩
  have HE2 := Lib.hid (hup.ext HE.out HSC.out.from_)
  obtain ⟨c1, c2, c3, _, _, A', c', c6, c7⟩ := hsc.cells
  simp only at c1 c2 c3 c6
  clear hsc hup c7 c6 HSC
  by_cases h1 : e ≠ 0
  · have HX2 := Lib.hid (show pick b = ([], 0, e) by rw [HX.out, if_pos h1])
    have h1' : ((e : Int) != 0) = true := by rw [bne_iff_ne]; omega
    go_wp2_with fail
    go_quiet (fail)
    go_wp2
    go_ret3
    rw [HX2.out]
    exact ⟨_, rfl, Ow.nil _ _ _ _ _, HE2.out.drewN _⟩
  have h1' : e = 0 := Classical.not_not.1 h1
  subst h1'
  clear h1 HZ
  by_cases h2 : 65536 < n
  · have HX2 := Lib.hid (show pick b = ([], 0, 4) by rw [HX.out, if_neg (by simp), if_pos h2])
    have h2' : (65536 : Int) < (n : Int) := by omega
    go_wp2_with fail
    go_ret3
    rw [HX2.out]
    exact ⟨_, rfl, Ow.nil _ _ _ _ _, HE2.out⟩
  have h2' : (n : Int) ≤ 65536 := by omega
  by_cases h3 : b.length < 1 + k + n + 4
  · have HX2 := Lib.hid (show pick b = ([], 0, 2) by rw [HX.out, if_neg (by simp), if_neg h2, if_pos h3])
    have h3' : (b.length : Int) - (1 + (k : Int)) < (n : Int) + 4 := by omega
    go_wp2_with fail
    go_ret3
    rw [HX2.out]
    exact ⟨_, rfl, Ow.nil _ _ _ _ _, HE2.out⟩
  have h3' : (n : Int) + 4 ≤ (b.length : Int) - (1 + (k : Int)) := by omega
  go_wp2_with fail
  have HR2 := Lib.hid (HR.out.ext HE2.out)
  have hK : ∃ K, K = 1 + k + n := ⟨_, rfl⟩
  obtain ⟨K, hK⟩ := hK
  have hKi : 1 + (k : Int) + (n : Int) = (K : Int) := by omega
  rw [← hK] at h3
  have HX2 := Lib.hid HX.out
  rw [← hK] at HX2
  have hKb : K + 4 ≤ b.length := by omega
  have hwr1 : IntKind.i64.wrap (1 + (k : Int) + (n : Int)) = (K : Int) := by rw [hKi]; exact IntWalk.i64_in _ (by omega)
  have hwr2 : IntKind.i64.wrap ((K : Int) + 4) = (K : Int) + 4 := IntWalk.i64_in _ (by omega)
  have hsA := slice_of tBytes (some ad) b.length c .i64 .i64 (K : Int) ((K : Int) + 4) K (K + 4) rfl (by omega) (by omega) (by omega)
  have hsB := slice_to tBytes (some ad) b.length c .i64 (K : Int) K rfl (by omega)
  have hrA := HR2.out.part (l := K) (h := K + 4) rfl (by omega) hKb
  have hrB := HR2.out.to_ (h := K) rfl (by omega)
  simp only [partV_eq, Nat.add_sub_cancel_left, Nat.sub_zero] at hsA hsB hrA hrB
  have h4 : ((b.drop K).take 4).length = 4 := by rw [List.length_take, List.length_drop]; omega
  generalize hY : (b.drop K).take 4 = Y at hrA h4
  match Y, h4 with
  | [y0, y1, y2, y3], _ =>
  obtain ⟨ad4, hA4, _⟩ := hrA.shape.2.2.2.2.byte (j := 0) (by simp)
  rw [hA4] at hsA hrA
  have HLD := Lib.hid (fun W (he : Ext w2 W) => arr4_cells (hrA.ext he))
  have HRB := Lib.hid hrB
  have HY := Lib.hid hY
  have hC : crc [b.take K].flatten = crc (b.take K) := by simp
  have hXl := crc_lt (b.take K)
  generalize hX : crc (b.take K) = X at hC hXl
  have HXe := Lib.hid hX
  have HC := Lib.hid hC
  have HXl := Lib.hid hXl
  have hcmp := fun W => arr4_neq W y0 y1 y2 y3 (byt (X / 16777216)) (byt (X / 65536)) (byt (X / 256)) (byt X)
  have hat := arr4_at (some ad4) (c - K)
  clear hA4
  have H3 := Lib.hid h3
  have HKb := Lib.hid hKb
  have HK := Lib.hid hK
  clear hrB hY hC hX hXl hrA h3 hKb hKi hK h3' h2
  by_cases h5 : [y0, y1, y2, y3] = [byt (X / 16777216), byt (X / 65536), byt (X / 256), byt X]
  · rw [decide_eq_true h5] at hcmp
    have H5 := Lib.hid h5
    clear h5
    have hK1 : 1 + k ≤ K := by rw [HK.out]; omega
    have hrC := HR2.out.part (l := 1 + k) (h := K) rfl hK1 (by have := HKb.out; omega)
    have hnK : K - (1 + k) = n := by rw [HK.out]; omega
    simp only [partV_eq, hnK] at hrC
    have HRC := Lib.hid hrC
    have HPK := Lib.hid (show pick b = ((b.drop (1 + k)).take n, K + 4, 0) by rw [HX2.out, if_neg (by simp), if_neg (by omega), if_neg H3.out, if_neg]; rw [HY.out, HXe.out, H5.out]; simp [be4])
    have hlenC : ((b.drop (1 + k)).take n).length = n := by rw [List.length_take, List.length_drop]; have := HKb.out; omega
    have HLC := Lib.hid hlenC
    clear hK1 hrC hnK hlenC
    have hsC := slice_of tBytes (some ad) b.length c .i64 .i64 (1 + (k : Int)) (K : Int) (1 + k) K (by omega) rfl (by rw [HK.out]; omega) (by have := HKb.out; omega)
    have hnK : K - (1 + k) = n := by rw [HK.out]; omega
    simp only [partV_eq, hnK] at hsC
    clear hnK
    go_region_held3 (fun W => Ext w2 W ∧ W.cell? ad4 = some (encB y0) ∧ W.cell? ⟨ad4.block, ad4.off + 1, none⟩ = some (encB y1) ∧ W.cell? ⟨ad4.block, ad4.off + 2, none⟩ = some (encB y2) ∧ W.cell? ⟨ad4.block, ad4.off + 3, none⟩ = some (encB y3))
      (first | exact ⟨(Ext.refl _).drew, HLD.out _ (Ext.refl _).drew⟩ | exact ⟨(Ext.refl _).drew.alloc _, HLD.out _ ((Ext.refl _).drew.alloc _)⟩ | exact ⟨((Ext.refl _).drew.alloc _).trans (by assumption), HLD.out _ (((Ext.refl _).drew.alloc _).trans (by assumption))⟩)
      (first | (go_at_call 22; refine (Sum_calls _ (fun _ => True) _ [b.take K] (Rs.one_ (heap_alloc_new _ _) trivial ((HRB.out.drew.alloc _).mono fun _ _ => trivial))).mono ?_; rw [HC.out]; rintro e w' ⟨rfl, rfl⟩) | (go_at_call 49; refine (four_calls _ X HXl.out).mono ?_; rintro e w3 ⟨rfl, he3⟩; simp only [be4, List.map_cons, List.map_nil]))
    all_goals
      have hE3 := (‹Ext w2 w3 ∧ _ ∧ _ ∧ _ ∧ _›).1
      have HE3 := Lib.hid (HE2.out.trans hE3)
      have HRC3 := Lib.hid (HRC.out.ext hE3)
      clear hE3
      go_wp2_with fail
      refine (Join_calls _ (fun _ => True) _ [(b.drop (1 + k)).take n] (Rs.one_ (heap_alloc_new _ _) trivial ?_) (by simp [flen]; omega)).mono ?_
      · exact (HRC3.out.alloc _).mono fun _ _ => trivial
      rintro e w4 ⟨u, rfl, ho, he⟩
      have hf : [(b.drop (1 + k)).take n].flatten = (b.drop (1 + k)).take n := by simp
      rw [hf] at ho
      have HE4 := Lib.hid ((HE3.out.alloc _).trans he)
      have HO4 := Lib.hid ((ho.lower (base' := w.heap.size) (HE3.out.alloc _).le).mono (S' := (w.heap.size ≤ ·)) fun b hb => Nat.le_trans (HE3.out.alloc _).le hb)
      clear ho he hf
      go_wp2
      go_ret3
      rw [HPK.out]
      exact ⟨_, by first | rfl | (congr 4; omega) | (simp; omega), HO4.out, HE4.out⟩
  · rw [decide_eq_false h5] at hcmp
    have H5 := Lib.hid h5
    have HPK := Lib.hid (show pick b = ([], 0, 11) by rw [HX2.out, if_neg (by simp), if_neg (by omega), if_neg H3.out, if_pos]; rw [HY.out, HXe.out]; exact H5.out)
    clear h5
    go_region_held3 (fun W => Ext w2 W ∧ W.cell? ad4 = some (encB y0) ∧ W.cell? ⟨ad4.block, ad4.off + 1, none⟩ = some (encB y1) ∧ W.cell? ⟨ad4.block, ad4.off + 2, none⟩ = some (encB y2) ∧ W.cell? ⟨ad4.block, ad4.off + 3, none⟩ = some (encB y3))
      (first | exact ⟨(Ext.refl _).drew, HLD.out _ (Ext.refl _).drew⟩ | exact ⟨(Ext.refl _).drew.alloc _, HLD.out _ ((Ext.refl _).drew.alloc _)⟩ | exact ⟨((Ext.refl _).drew.alloc _).trans (by assumption), HLD.out _ (((Ext.refl _).drew.alloc _).trans (by assumption))⟩)
      (first | (go_at_call 22; refine (Sum_calls _ (fun _ => True) _ [b.take K] (Rs.one_ (heap_alloc_new _ _) trivial ((HRB.out.drew.alloc _).mono fun _ _ => trivial))).mono ?_; rw [HC.out]; rintro e w' ⟨rfl, rfl⟩) | (go_at_call 49; refine (four_calls _ X HXl.out).mono ?_; rintro e w3 ⟨rfl, he3⟩; simp only [be4, List.map_cons, List.map_nil]))
    all_goals
      have hE3 := (‹Ext w2 w3 ∧ _ ∧ _ ∧ _ ∧ _›).1
      have HE3 := Lib.hid (HE2.out.trans hE3)
      clear hE3
      go_wp2_with fail
      go_ret3
      rw [HPK.out]
      exact ⟨_, rfl, Ow.nil _ _ _ _ _, HE3.out⟩
end Go.Proofs.Ytikbpgcalmndoaa
