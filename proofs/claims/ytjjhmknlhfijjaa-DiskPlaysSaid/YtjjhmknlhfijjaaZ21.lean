/-
  Texts of this claim, put together: DrOps3.
-/
import Derived.Test.YtjjhmknlhfijjaaZ20
set_option linter.unusedVariables false
set_option linter.unusedSimpArgs false
namespace Go.Proofs.Ytjjhmknlhfijjaa
open Go.RowKit

/-- What is read: bytes of the disk's own. -/
def RReadP (w : World) (s : DkS) (n : Nam) (e : Ending) (w' : World) : Prop := ∃ v, e = .returned (.tuple #[v, .int .i64 (findF s n)]) ∧ Rs kByte w' (fun _ => True) v (readF s n) ∧ Ext w w'
set_option maxHeartbeats 2000000 in
theorem RRead_calls (w : World) (x : Nat) (M D : Nat → Prop) (s : DkS) (n : Nam) (h : RfX w x M D s) (hn : n.length ≤ 9223372036854775807) :
    Calls Try.prog 42 #[ptr x, .string ⟨n.toArray⟩] w (RReadP w s n) := by
  have HH := Lib.hid h
  have HFI := Lib.hid (why_calls w x M D s n h hn)
  have hlt := h.lt
  clear h hn
  unfold ptr at HFI ⊢
  by_cases hf : findF s n = 0
  · have HF := Lib.hid hf
    have HB := Lib.hid (show readF s n = bytesK s.seen n by unfold readF; rw [if_pos hf])
    clear hf
    go_enter Try.func42, Try.ntmps42
    go_wp2_with fail
    refine HFI.out.mono ?_
    rw [HF.out]
    rintro e w2 ⟨rfl, hx2⟩
    have HX2 := Lib.hid hx2
    obtain ⟨z, lv, av, hy2⟩ := HH.out.ext hx2
    have HFS := Lib.hid (Files_calls w2 x M D s z lv av hy2)
    clear hx2 hy2
    go_wp2_with fail
    refine HFS.out.mono ?_
    rintro e w3 ⟨u, rfl, hu, hx3⟩
    have HU3 := Lib.hid hu
    have HX3 := Lib.hid (HX2.out.trans hx3)
    clear hu hx3
    go_wp2_with fail
    refine (get_calls w3 _ u s.seen n HU3.out).mono ?_
    rintro e w4 ⟨A, c, rfl, hr, hx4⟩
    have HX4 := Lib.hid (HX3.out.trans hx4)
    have HR := Lib.hid hr
    obtain ⟨m, hm⟩ : ∃ m, m = (bytesK s.seen n).length := ⟨_, rfl⟩
    rw [← hm] at HR ⊢
    clear hr hx4 hm
    go_wp2_with fail
    go_ret2
    exact ⟨_, by rw [HF.out]; rfl, by rw [HB.out]; exact HR.out.mono fun _ _ => trivial, HX4.out⟩
  · obtain ⟨r, hr⟩ : ∃ r, r = findF s n := ⟨_, rfl⟩
    have HR := Lib.hid hr
    have HE := Lib.hid (readF_none hf)
    rw [← hr] at hf
    have hf2 : (r != 0) = true := bne_iff_ne.2 hf
    clear hr hf
    go_enter Try.func42, Try.ntmps42
    go_wp2_with fail
    refine HFI.out.mono ?_
    rw [← HR.out]
    rintro e w2 ⟨rfl, hx2⟩
    have HX2 := Lib.hid hx2
    clear hx2
    go_wp2_with fail
    go_ret2
    exact ⟨_, by rw [← HR.out]; rfl, by rw [HE.out]; exact Rs.nil _ _ _, HX2.out⟩
set_option maxRecDepth 1000000 in
set_option maxHeartbeats 8000000 in
theorem RWrite_calls (w : World) (x : Nat) (M D : Nat → Prop) (s : DkS) (n : Nam) (a : Int) (S : Nat → Prop) (bv : Value) (bs : Nam) (h : RfX w x M D s) (hn : n.length ≤ 9223372036854775807) (ha : I64 a) (hb : Rs kByte w S bv bs) (hc : s.acts.length ≤ 1000000) :
    Calls Try.prog 41 #[ptr x, .string ⟨n.toArray⟩, .int .i64 a, bv] w fun e w' => e = .returned (.int .i64 (writeS s n a bs).1) ∧ RfP w x M D w' (writeS s n a bs).2 := by
  have HH := Lib.hid h
  have HC := Lib.hid hc
  have HBS := Lib.hid hb
  obtain ⟨Ab, cb, rfl, -, -, hbl, -⟩ := hb
  have HFI := Lib.hid (why_calls w x M D s n h hn)
  have hlt := h.lt
  clear h hn hc
  unfold ptr at HFI ⊢
  go_enter Try.func41, Try.ntmps41
  go_wp2_with fail
  refine HFI.out.mono ?_
  rintro e w2 ⟨rfl, hx2⟩
  have HX2 := Lib.hid hx2
  clear hx2
  by_cases hcase : findF s n = 21 ∧ a = 0
  · obtain ⟨hf, ha0⟩ := hcase
    have HOF := Lib.hid (find_file.1 hf).1
    have HF := Lib.hid hf
    rw [hf]
    have hz0 : (a == 0) = true := beq_iff_eq.2 ha0
    have HA00 := Lib.hid ha0
    obtain ⟨z, lv, av, hy⟩ := HH.out.ext HX2.out
    have HFS2 := Lib.hid (Files_calls w2 x M D s z lv av hy)
    clear hy hf ha0
    go_wp2_with fail
    refine HFS2.out.mono ?_
    rintro e w3 ⟨u3, rfl, hu3, hx3⟩
    obtain ⟨A3, c3, rfl, -, -, -, -⟩ := hu3
    have HX3 := Lib.hid (HX2.out.trans hx3)
    clear hx3
    by_cases hfl : 4096 ≤ s.seen.length
    · have HE := Lib.hid (show writeS s n a bs = (7, s) by
        have e : writeF s n a bs = 7 := by unfold writeF; rw [if_pos ⟨HF.out, HA00.out⟩, if_pos hfl]
        unfold writeS
        rw [e, if_neg (by decide)])
      have hdl : decide ((4096 : Int) ≤ (s.seen.length : Int)) = true := decide_eq_true (by omega)
      go_wp2_with fail
      go_ret
      rw [HE.out]
      exact ⟨rfl, HH.out.extp HX3.out⟩
    · have HWF := Lib.hid (show writeF s n a bs = if s.room - s.used < bs.length then 7 else 0 by unfold writeF; rw [if_pos ⟨HF.out, HA00.out⟩, if_neg hfl])
      have hdl : decide ((4096 : Int) ≤ (s.seen.length : Int)) = false := decide_eq_false (by omega)
      clear hfl
      obtain ⟨z, lv, av, hy⟩ := HH.out.ext HX3.out
      have HFS := Lib.hid (Files_calls w3 x M D s z lv av hy)
      have hml := hy.ok.most
      clear hy
      go_wp2_with fail
      refine HFS.out.mono ?_
      rintro e w4 ⟨u, rfl, hu, hx4⟩
      have HU4 := Lib.hid hu
      have HX4 := Lib.hid (HX3.out.trans hx4)
      clear hu hx4
      go_wp2_with fail
      refine (get_calls w4 _ u s.seen n HU4.out).mono ?_
      rintro e w5 ⟨A, c, rfl, -, hx5⟩
      have HX5 := Lib.hid (HX4.out.trans hx5)
      obtain ⟨m, hm⟩ : ∃ m, m = (bytesK s.seen n).length := ⟨_, rfl⟩
      rw [← hm]
      have HML := Lib.hid (show s.len n = m from hm.symm)
      have hmb : m ≤ 1073741824 := by
        have h1 := HH.out.ok.len_le n
        have h2 := HH.out.ok.most
        rw [HML.out] at h1
        omega
      clear hm hx5
      have hm0 : m = 0 := by
        rw [← HML.out]
        unfold DkS.len bytesK
        rw [(find_file.1 HF.out).2.2]
        rfl
      subst hm0
      have hd : decide (a < 0) = false := decide_eq_false (by have := HA00.out; omega)
      have hd1 : decide (((0 : Nat) : Int) < a) = false := decide_eq_false (by have := HA00.out; omega)
      have hd2 : decide ((0 : Int) < a) = false := decide_eq_false (by have := HA00.out; omega)
      obtain ⟨us, hus⟩ : ∃ u, u = usedF s := ⟨_, rfl⟩
      have hu1 : us = (s.used : Int) := by rw [hus]; unfold usedF; rw [HOF.out]; rfl
      have hu2 : 0 ≤ us := by omega
      have hu3 : us ≤ s.room := by have := HH.out.ok.room; omega
      have hu5 : s.room ≤ 16777216 := by obtain ⟨z, lv, av, hy⟩ := HH.out; exact hy.most
      have HUU := Lib.hid hus
      have HU1 := Lib.hid hu1
      clear hus hu1
      by_cases hbig : 16777216 < bs.length
      · have HE := Lib.hid (show writeS s n a bs = (7, s) by
          have e : writeF s n a bs = 7 := by rw [HWF.out, if_pos (by have := HU1.out; omega)]
          unfold writeS
          rw [e, if_neg (by decide)])
        have hbg : decide ((16777216 : Int) < (bs.length : Int)) = true := decide_eq_true (by omega)
        go_upto_region 11 with fail
        obtain ⟨w6, hw6⟩ : ∃ W, W = w5.drew := ⟨_, rfl⟩
        have HX6 := Lib.hid (show Ext w w6 by rw [hw6]; exact HX5.out.drew)
        have HS0 := Lib.hid (show ∀ W : World, Ext w6 W → W.cell? ⟨x, 0, none⟩ = some (.int .i64 s.room) from fun W he => by
          obtain ⟨z, lv, av, hy⟩ := HH.out.ext (HX6.out.trans he)
          exact cell_blk hy.blk 0)
        have hlt6 : x < w6.heap.size := (HH.out.ext HX6.out).lt
        refine wpF_region (fun W => W.cell? ⟨x, 0, none⟩ = some (.int .i64 s.room)) (fun _ => True) 99 15 (by kernel_rfl) (by kernel_rfl) ?_
        rw [← hw6]
        clear hw6
        refine wpF_take0 (i := 0) (v := ?v1) rfl (by kernel_rfl) (by kernel_rfl) (by kernel_rfl) (fun _ _ _ h => h) (by kernel_rfl) (Or.inl ⟨by rfl, ?hy1⟩) (HS0.out _ (Ext.refl _)) (fun _ => trivial) ?rest1
        case hy1 => (intro W hSW; (try dsimp only at hSW); go_simp; (try with_reducible rfl))
        (try simp only [Act.put, List.setIfInBounds_toArray, List.set_cons_zero, List.set_cons_succ])
        refine wpF_take0 (i := 1) (v := ?v2) rfl (by kernel_rfl) (by kernel_rfl) (by kernel_rfl) (fun _ _ _ h => h) (by kernel_rfl) (Or.inl ⟨by rfl, ?hy2⟩) (HS0.out _ (Ext.refl _)) (fun _ => trivial) ?rest2
        case hy2 => (intro W hSW; (try dsimp only at hSW); go_simp; (try with_reducible rfl))
        (try simp only [Act.put, List.setIfInBounds_toArray, List.set_cons_zero, List.set_cons_succ])
        refine wpF_take0 (i := 2) (v := ?v3) rfl (by kernel_rfl) (by kernel_rfl) (by kernel_rfl) (fun _ _ _ h => h) (by kernel_rfl) (Or.inl ⟨by rfl, ?hy3⟩) (HS0.out _ (Ext.refl _)) (fun _ => trivial) ?rest3
        case hy3 => (intro W hSW; (try dsimp only at hSW); go_simp; (try with_reducible rfl))
        (try simp only [Act.put, List.setIfInBounds_toArray, List.set_cons_zero, List.set_cons_succ])
        refine wpF_take0 (i := 3) (v := ?v4) rfl (by kernel_rfl) (by kernel_rfl) (by kernel_rfl) (fun _ _ _ h => h) (by kernel_rfl) (Or.inl ⟨by rfl, ?hy4⟩) (HS0.out _ (Ext.refl _)) (fun _ => trivial) ?rest4
        case hy4 => (intro W hSW; (try dsimp only at hSW); go_simp; (try with_reducible rfl))
        (try simp only [Act.put, List.setIfInBounds_toArray, List.set_cons_zero, List.set_cons_succ])
        refine wpF_take0 (i := 4) (v := undef) rfl (by kernel_rfl) (by kernel_rfl) (by kernel_rfl) (fun _ _ _ h => h) (by kernel_rfl) (Or.inr ⟨by rfl, rfl⟩) (HS0.out _ (Ext.refl _)) (fun _ => trivial) ?rest5
        (try simp only [Act.put, List.setIfInBounds_toArray, List.set_cons_zero, List.set_cons_succ])
        refine wpF_take0 (i := 5) (v := undef) rfl (by kernel_rfl) (by kernel_rfl) (by kernel_rfl) (fun _ _ _ h => h) (by kernel_rfl) (Or.inr ⟨by rfl, rfl⟩) (HS0.out _ (Ext.refl _)) (fun _ => trivial) ?rest6
        (try simp only [Act.put, List.setIfInBounds_toArray, List.set_cons_zero, List.set_cons_succ])
        refine wpF_take0 (i := 6) (v := undef) rfl (by kernel_rfl) (by kernel_rfl) (by kernel_rfl) (fun _ _ _ h => h) (by kernel_rfl) (Or.inr ⟨by rfl, rfl⟩) (HS0.out _ (Ext.refl _)) (fun _ => trivial) ?rest7
        (try simp only [Act.put, List.setIfInBounds_toArray, List.set_cons_zero, List.set_cons_succ])
        refine wpF_take0 (i := 7) (v := undef) rfl (by kernel_rfl) (by kernel_rfl) (by kernel_rfl) (fun _ _ _ h => h) (by kernel_rfl) (Or.inr ⟨by rfl, rfl⟩) (HS0.out _ (Ext.refl _)) (fun _ => trivial) ?rest8
        (try simp only [Act.put, List.setIfInBounds_toArray, List.set_cons_zero, List.set_cons_succ])
        refine wpF_take0 (i := 8) (v := undef) rfl (by kernel_rfl) (by kernel_rfl) (by kernel_rfl) (fun _ _ _ h => h) (by kernel_rfl) (Or.inr ⟨by rfl, rfl⟩) (HS0.out _ (Ext.refl _)) (fun _ => trivial) ?rest9
        (try simp only [Act.put, List.setIfInBounds_toArray, List.set_cons_zero, List.set_cons_succ])
        refine wpF_take0 (i := 9) (v := undef) rfl (by kernel_rfl) (by kernel_rfl) (by kernel_rfl) (fun _ _ _ h => h) (by kernel_rfl) (Or.inr ⟨by rfl, rfl⟩) (HS0.out _ (Ext.refl _)) (fun _ => trivial) ?rest10
        (try simp only [Act.put, List.setIfInBounds_toArray, List.set_cons_zero, List.set_cons_succ])
        refine wpF_take0 (i := 10) (v := undef) rfl (by kernel_rfl) (by kernel_rfl) (by kernel_rfl) (fun _ _ _ h => h) (by kernel_rfl) (Or.inr ⟨by rfl, rfl⟩) (HS0.out _ (Ext.refl _)) (fun _ => trivial) ?rest11
        (try simp only [Act.put, List.setIfInBounds_toArray, List.set_cons_zero, List.set_cons_succ])
        refine wpF_take0 (i := 11) (v := undef) rfl (by kernel_rfl) (by kernel_rfl) (by kernel_rfl) (fun _ _ _ h => h) (by kernel_rfl) (Or.inr ⟨by rfl, rfl⟩) (HS0.out _ (Ext.refl _)) (fun _ => trivial) ?rest12
        (try simp only [Act.put, List.setIfInBounds_toArray, List.set_cons_zero, List.set_cons_succ])
        refine wpF_take0 (i := 12) (v := undef) rfl (by kernel_rfl) (by kernel_rfl) (by kernel_rfl) (fun _ _ _ h => h) (by kernel_rfl) (Or.inr ⟨by rfl, rfl⟩) (HS0.out _ (Ext.refl _)) (fun _ => trivial) ?rest13
        (try simp only [Act.put, List.setIfInBounds_toArray, List.set_cons_zero, List.set_cons_succ])
        refine wpF_take0 (i := 13) (v := undef) rfl (by kernel_rfl) (by kernel_rfl) (by kernel_rfl) (fun _ _ _ h => h) (by kernel_rfl) (Or.inr ⟨by rfl, rfl⟩) (HS0.out _ (Ext.refl _)) (fun _ => trivial) ?rest14
        (try simp only [Act.put, List.setIfInBounds_toArray, List.set_cons_zero, List.set_cons_succ])
        refine wpF_take0 (i := 14) (v := ?v15) rfl (by kernel_rfl) (by kernel_rfl) (by kernel_rfl) (fun _ _ _ h => h) (by kernel_rfl) (Or.inl ⟨by rfl, ?hy15⟩) (HS0.out _ (Ext.refl _)) (fun _ => trivial) ?rest15
        case hy15 => (intro W hSW; (try dsimp only at hSW); go_simp; (try with_reducible rfl))
        (try simp only [Act.put, List.setIfInBounds_toArray, List.set_cons_zero, List.set_cons_succ])
        obtain ⟨w7, hw7⟩ : ∃ W, W = w6 := ⟨_, rfl⟩
        have HX7 := Lib.hid (show Ext w w7 by rw [hw7]; exact HX6.out)
        rw [← hw7]
        clear hw7
        refine wpF_done (by kernel_rfl) ?_ _
        refine NoPanic.normal ?_
        go_wp2_with fail
        go_ret
        rw [HE.out]
        exact ⟨rfl, HH.out.extp HX7.out⟩
      · have hbg : decide ((16777216 : Int) < (bs.length : Int)) = false := decide_eq_false (by omega)
        have hu4 : IntKind.i64.wrap (us + bs.length) = us + bs.length := IntWalk.i64_in _ (by omega)
        by_cases hful : s.room < us + (bs.length : Int)
        · have HE := Lib.hid (show writeS s n a bs = (7, s) by
            have e : writeF s n a bs = 7 := by rw [HWF.out, if_pos (by have := HU1.out; omega)]
            unfold writeS
            rw [e, if_neg (by decide)])
          have hdec : decide (s.room < us + (bs.length : Int)) = true := decide_eq_true hful
          go_upto_region 11 with fail
          obtain ⟨w6, hw6⟩ : ∃ W, W = w5.drew := ⟨_, rfl⟩
          have HX6 := Lib.hid (show Ext w w6 by rw [hw6]; exact HX5.out.drew)
          have HS0 := Lib.hid (show ∀ W : World, Ext w6 W → W.cell? ⟨x, 0, none⟩ = some (.int .i64 s.room) from fun W he => by
            obtain ⟨z, lv, av, hy⟩ := HH.out.ext (HX6.out.trans he)
            exact cell_blk hy.blk 0)
          have hlt6 : x < w6.heap.size := (HH.out.ext HX6.out).lt
          refine wpF_region (fun W => W.cell? ⟨x, 0, none⟩ = some (.int .i64 s.room)) (fun _ => True) 99 15 (by kernel_rfl) (by kernel_rfl) ?_
          rw [← hw6]
          clear hw6
          refine wpF_take0 (i := 0) (v := ?v16) rfl (by kernel_rfl) (by kernel_rfl) (by kernel_rfl) (fun _ _ _ h => h) (by kernel_rfl) (Or.inl ⟨by rfl, ?hy16⟩) (HS0.out _ (Ext.refl _)) (fun _ => trivial) ?rest16
          case hy16 => (intro W hSW; (try dsimp only at hSW); go_simp; (try with_reducible rfl))
          (try simp only [Act.put, List.setIfInBounds_toArray, List.set_cons_zero, List.set_cons_succ])
          refine wpF_take0 (i := 1) (v := ?v17) rfl (by kernel_rfl) (by kernel_rfl) (by kernel_rfl) (fun _ _ _ h => h) (by kernel_rfl) (Or.inl ⟨by rfl, ?hy17⟩) (HS0.out _ (Ext.refl _)) (fun _ => trivial) ?rest17
          case hy17 => (intro W hSW; (try dsimp only at hSW); go_simp; (try with_reducible rfl))
          (try simp only [Act.put, List.setIfInBounds_toArray, List.set_cons_zero, List.set_cons_succ])
          refine wpF_take0 (i := 2) (v := ?v18) rfl (by kernel_rfl) (by kernel_rfl) (by kernel_rfl) (fun _ _ _ h => h) (by kernel_rfl) (Or.inl ⟨by rfl, ?hy18⟩) (HS0.out _ (Ext.refl _)) (fun _ => trivial) ?rest18
          case hy18 => (intro W hSW; (try dsimp only at hSW); go_simp; (try with_reducible rfl))
          (try simp only [Act.put, List.setIfInBounds_toArray, List.set_cons_zero, List.set_cons_succ])
          refine wpF_take0 (i := 3) (v := ?v19) rfl (by kernel_rfl) (by kernel_rfl) (by kernel_rfl) (fun _ _ _ h => h) (by kernel_rfl) (Or.inl ⟨by rfl, ?hy19⟩) (HS0.out _ (Ext.refl _)) (fun _ => trivial) ?rest19
          case hy19 => (intro W hSW; (try dsimp only at hSW); go_simp; (try with_reducible rfl))
          (try simp only [Act.put, List.setIfInBounds_toArray, List.set_cons_zero, List.set_cons_succ])
          refine wpF_take0 (i := 4) (v := ?v20) rfl (by kernel_rfl) (by kernel_rfl) (by kernel_rfl) (fun _ _ _ h => h) (by kernel_rfl) (Or.inl ⟨by rfl, ?hy20⟩) (HS0.out _ (Ext.refl _)) (fun _ => trivial) ?rest20
          case hy20 => (intro W hSW; (try dsimp only at hSW); go_simp; (try with_reducible rfl))
          (try simp only [Act.put, List.setIfInBounds_toArray, List.set_cons_zero, List.set_cons_succ])
          refine wpF_take0 (i := 6) (v := ?v21) rfl (by kernel_rfl) (by kernel_rfl) (by kernel_rfl) (fun _ _ _ h => h) (by kernel_rfl) (Or.inl ⟨by rfl, ?hy21⟩) (HS0.out _ (Ext.refl _)) (fun _ => trivial) ?rest21
          case hy21 => (intro W hSW; (try dsimp only at hSW); go_simp; (try with_reducible rfl))
          (try simp only [Act.put, List.setIfInBounds_toArray, List.set_cons_zero, List.set_cons_succ])
          refine wpF_take0 (i := 7) (v := ?v22) rfl (by kernel_rfl) (by kernel_rfl) (by kernel_rfl) (fun _ _ _ h => h) (by kernel_rfl) (Or.inl ⟨by rfl, ?hy22⟩) (HS0.out _ (Ext.refl _)) (fun _ => trivial) ?rest22
          case hy22 => (intro W hSW; (try dsimp only at hSW); go_simp; (try with_reducible rfl))
          (try simp only [Act.put, List.setIfInBounds_toArray, List.set_cons_zero, List.set_cons_succ])
          refine wpF_take0 (i := 9) (v := ?v23) rfl (by kernel_rfl) (by kernel_rfl) (by kernel_rfl) (fun _ _ _ h => h) (by kernel_rfl) (Or.inl ⟨by rfl, ?hy23⟩) (HS0.out _ (Ext.refl _)) (fun _ => trivial) ?rest23
          case hy23 => (intro W hSW; (try dsimp only at hSW); go_simp; (try with_reducible rfl))
          (try simp only [Act.put, List.setIfInBounds_toArray, List.set_cons_zero, List.set_cons_succ])
          refine wpF_take0 (i := 10) (v := ?v24) rfl (by kernel_rfl) (by kernel_rfl) (by kernel_rfl) (fun _ _ _ h => h) (by kernel_rfl) (Or.inl ⟨by rfl, ?hy24⟩) (HS0.out _ (Ext.refl _)) (fun _ => trivial) ?rest24
          case hy24 => (intro W hSW; (try dsimp only at hSW); go_simp; (try with_reducible rfl))
          (try simp only [Act.put, List.setIfInBounds_toArray, List.set_cons_zero, List.set_cons_succ])
          refine wpF_take0 (i := 11) (v := ?v25) rfl (by kernel_rfl) (by kernel_rfl) (by kernel_rfl) (fun _ _ _ h => h) (by kernel_rfl) (Or.inl ⟨by rfl, ?hy25⟩) (HS0.out _ (Ext.refl _)) (fun _ => trivial) ?rest25
          case hy25 => (intro W hSW; (try dsimp only at hSW); go_simp; (try with_reducible rfl))
          (try simp only [Act.put, List.setIfInBounds_toArray, List.set_cons_zero, List.set_cons_succ])
          refine wpF_take0 (i := 12) (v := ?v26) rfl (by kernel_rfl) (by kernel_rfl) (by kernel_rfl) (fun _ _ _ h => h) (by kernel_rfl) (Or.inl ⟨by rfl, ?hy26⟩) (HS0.out _ (Ext.refl _)) (fun _ => trivial) ?rest26
          case hy26 => (intro W hSW; (try dsimp only at hSW); go_simp; (try with_reducible rfl))
          (try simp only [Act.put, List.setIfInBounds_toArray, List.set_cons_zero, List.set_cons_succ])
          refine wpF_step (i := 5) (by kernel_rfl) rfl (fun K hK => ?_)
          go_simp
          refine (RUsed_calls w6 x M D s (HH.out.ext HX6.out)).mono ?_
          rw [← HUU.out]
          rintro e w7 ⟨rfl, hx7⟩
          have HX67 := Lib.hid hx7
          have HX7 := Lib.hid (HX6.out.trans hx7)
          clear hx7
          (try go_wp2_with fail)
          refine hK.out _ _ (HS0.out _ HX67.out) (fun _ => trivial) ?_
          clear hK K
          (try simp only [Act.put, List.setIfInBounds_toArray, List.set_cons_zero, List.set_cons_succ])
          refine wpF_take0 (i := 8) (v := ?v27) rfl (by kernel_rfl) (by kernel_rfl) (by kernel_rfl) (fun _ _ _ h => h) (by kernel_rfl) (Or.inl ⟨by rfl, ?hy27⟩) (HS0.out _ HX67.out) (fun _ => trivial) ?rest27
          case hy27 => (intro W hSW; (try dsimp only at hSW); go_simp; (try with_reducible rfl))
          (try simp only [Act.put, List.setIfInBounds_toArray, List.set_cons_zero, List.set_cons_succ])
          refine wpF_take0 (i := 13) (v := ?v28) rfl (by kernel_rfl) (by kernel_rfl) (by kernel_rfl) (fun _ _ _ h => h) (by kernel_rfl) (Or.inl ⟨by rfl, ?hy28⟩) (HS0.out _ HX67.out) (fun _ => trivial) ?rest28
          case hy28 => (intro W hSW; (try dsimp only at hSW); go_simp; (try with_reducible rfl))
          (try simp only [Act.put, List.setIfInBounds_toArray, List.set_cons_zero, List.set_cons_succ])
          refine wpF_take0 (i := 14) (v := ?v29) rfl (by kernel_rfl) (by kernel_rfl) (by kernel_rfl) (fun _ _ _ h => h) (by kernel_rfl) (Or.inl ⟨by rfl, ?hy29⟩) (HS0.out _ HX67.out) (fun _ => trivial) ?rest29
          case hy29 => (intro W hSW; (try dsimp only at hSW); go_simp; (try with_reducible rfl))
          (try simp only [Act.put, List.setIfInBounds_toArray, List.set_cons_zero, List.set_cons_succ])
          refine wpF_done (by kernel_rfl) ?_ _
          refine NoPanic.normal ?_
          go_wp2_with fail
          go_ret
          rw [HE.out]
          exact ⟨rfl, HH.out.extp HX7.out⟩
        · have HW0 := Lib.hid (show writeF s n a bs = 0 by rw [HWF.out, if_neg (by have := HU1.out; omega)])
          have hdec : decide (s.room < us + (bs.length : Int)) = false := decide_eq_false hful
          go_upto_region 11 with fail
          obtain ⟨w6, hw6⟩ : ∃ W, W = w5.drew := ⟨_, rfl⟩
          have HX6 := Lib.hid (show Ext w w6 by rw [hw6]; exact HX5.out.drew)
          have HS0 := Lib.hid (show ∀ W : World, Ext w6 W → W.cell? ⟨x, 0, none⟩ = some (.int .i64 s.room) from fun W he => by
            obtain ⟨z, lv, av, hy⟩ := HH.out.ext (HX6.out.trans he)
            exact cell_blk hy.blk 0)
          have hlt6 : x < w6.heap.size := (HH.out.ext HX6.out).lt
          refine wpF_region (fun W => W.cell? ⟨x, 0, none⟩ = some (.int .i64 s.room)) (fun _ => True) 99 15 (by kernel_rfl) (by kernel_rfl) ?_
          rw [← hw6]
          clear hw6
          refine wpF_take0 (i := 0) (v := ?v30) rfl (by kernel_rfl) (by kernel_rfl) (by kernel_rfl) (fun _ _ _ h => h) (by kernel_rfl) (Or.inl ⟨by rfl, ?hy30⟩) (HS0.out _ (Ext.refl _)) (fun _ => trivial) ?rest30
          case hy30 => (intro W hSW; (try dsimp only at hSW); go_simp; (try with_reducible rfl))
          (try simp only [Act.put, List.setIfInBounds_toArray, List.set_cons_zero, List.set_cons_succ])
          refine wpF_take0 (i := 1) (v := ?v31) rfl (by kernel_rfl) (by kernel_rfl) (by kernel_rfl) (fun _ _ _ h => h) (by kernel_rfl) (Or.inl ⟨by rfl, ?hy31⟩) (HS0.out _ (Ext.refl _)) (fun _ => trivial) ?rest31
          case hy31 => (intro W hSW; (try dsimp only at hSW); go_simp; (try with_reducible rfl))
          (try simp only [Act.put, List.setIfInBounds_toArray, List.set_cons_zero, List.set_cons_succ])
          refine wpF_take0 (i := 2) (v := ?v32) rfl (by kernel_rfl) (by kernel_rfl) (by kernel_rfl) (fun _ _ _ h => h) (by kernel_rfl) (Or.inl ⟨by rfl, ?hy32⟩) (HS0.out _ (Ext.refl _)) (fun _ => trivial) ?rest32
          case hy32 => (intro W hSW; (try dsimp only at hSW); go_simp; (try with_reducible rfl))
          (try simp only [Act.put, List.setIfInBounds_toArray, List.set_cons_zero, List.set_cons_succ])
          refine wpF_take0 (i := 3) (v := ?v33) rfl (by kernel_rfl) (by kernel_rfl) (by kernel_rfl) (fun _ _ _ h => h) (by kernel_rfl) (Or.inl ⟨by rfl, ?hy33⟩) (HS0.out _ (Ext.refl _)) (fun _ => trivial) ?rest33
          case hy33 => (intro W hSW; (try dsimp only at hSW); go_simp; (try with_reducible rfl))
          (try simp only [Act.put, List.setIfInBounds_toArray, List.set_cons_zero, List.set_cons_succ])
          refine wpF_take0 (i := 4) (v := ?v34) rfl (by kernel_rfl) (by kernel_rfl) (by kernel_rfl) (fun _ _ _ h => h) (by kernel_rfl) (Or.inl ⟨by rfl, ?hy34⟩) (HS0.out _ (Ext.refl _)) (fun _ => trivial) ?rest34
          case hy34 => (intro W hSW; (try dsimp only at hSW); go_simp; (try with_reducible rfl))
          (try simp only [Act.put, List.setIfInBounds_toArray, List.set_cons_zero, List.set_cons_succ])
          refine wpF_take0 (i := 6) (v := ?v35) rfl (by kernel_rfl) (by kernel_rfl) (by kernel_rfl) (fun _ _ _ h => h) (by kernel_rfl) (Or.inl ⟨by rfl, ?hy35⟩) (HS0.out _ (Ext.refl _)) (fun _ => trivial) ?rest35
          case hy35 => (intro W hSW; (try dsimp only at hSW); go_simp; (try with_reducible rfl))
          (try simp only [Act.put, List.setIfInBounds_toArray, List.set_cons_zero, List.set_cons_succ])
          refine wpF_take0 (i := 7) (v := ?v36) rfl (by kernel_rfl) (by kernel_rfl) (by kernel_rfl) (fun _ _ _ h => h) (by kernel_rfl) (Or.inl ⟨by rfl, ?hy36⟩) (HS0.out _ (Ext.refl _)) (fun _ => trivial) ?rest36
          case hy36 => (intro W hSW; (try dsimp only at hSW); go_simp; (try with_reducible rfl))
          (try simp only [Act.put, List.setIfInBounds_toArray, List.set_cons_zero, List.set_cons_succ])
          refine wpF_take0 (i := 9) (v := ?v37) rfl (by kernel_rfl) (by kernel_rfl) (by kernel_rfl) (fun _ _ _ h => h) (by kernel_rfl) (Or.inl ⟨by rfl, ?hy37⟩) (HS0.out _ (Ext.refl _)) (fun _ => trivial) ?rest37
          case hy37 => (intro W hSW; (try dsimp only at hSW); go_simp; (try with_reducible rfl))
          (try simp only [Act.put, List.setIfInBounds_toArray, List.set_cons_zero, List.set_cons_succ])
          refine wpF_take0 (i := 10) (v := ?v38) rfl (by kernel_rfl) (by kernel_rfl) (by kernel_rfl) (fun _ _ _ h => h) (by kernel_rfl) (Or.inl ⟨by rfl, ?hy38⟩) (HS0.out _ (Ext.refl _)) (fun _ => trivial) ?rest38
          case hy38 => (intro W hSW; (try dsimp only at hSW); go_simp; (try with_reducible rfl))
          (try simp only [Act.put, List.setIfInBounds_toArray, List.set_cons_zero, List.set_cons_succ])
          refine wpF_take0 (i := 11) (v := ?v39) rfl (by kernel_rfl) (by kernel_rfl) (by kernel_rfl) (fun _ _ _ h => h) (by kernel_rfl) (Or.inl ⟨by rfl, ?hy39⟩) (HS0.out _ (Ext.refl _)) (fun _ => trivial) ?rest39
          case hy39 => (intro W hSW; (try dsimp only at hSW); go_simp; (try with_reducible rfl))
          (try simp only [Act.put, List.setIfInBounds_toArray, List.set_cons_zero, List.set_cons_succ])
          refine wpF_take0 (i := 12) (v := ?v40) rfl (by kernel_rfl) (by kernel_rfl) (by kernel_rfl) (fun _ _ _ h => h) (by kernel_rfl) (Or.inl ⟨by rfl, ?hy40⟩) (HS0.out _ (Ext.refl _)) (fun _ => trivial) ?rest40
          case hy40 => (intro W hSW; (try dsimp only at hSW); go_simp; (try with_reducible rfl))
          (try simp only [Act.put, List.setIfInBounds_toArray, List.set_cons_zero, List.set_cons_succ])
          refine wpF_step (i := 5) (by kernel_rfl) rfl (fun K hK => ?_)
          go_simp
          refine (RUsed_calls w6 x M D s (HH.out.ext HX6.out)).mono ?_
          rw [← HUU.out]
          rintro e w7 ⟨rfl, hx7⟩
          have HX67 := Lib.hid hx7
          have HX7 := Lib.hid (HX6.out.trans hx7)
          clear hx7
          (try go_wp2_with fail)
          refine hK.out _ _ (HS0.out _ HX67.out) (fun _ => trivial) ?_
          clear hK K
          (try simp only [Act.put, List.setIfInBounds_toArray, List.set_cons_zero, List.set_cons_succ])
          refine wpF_take0 (i := 8) (v := ?v41) rfl (by kernel_rfl) (by kernel_rfl) (by kernel_rfl) (fun _ _ _ h => h) (by kernel_rfl) (Or.inl ⟨by rfl, ?hy41⟩) (HS0.out _ HX67.out) (fun _ => trivial) ?rest41
          case hy41 => (intro W hSW; (try dsimp only at hSW); go_simp; (try with_reducible rfl))
          (try simp only [Act.put, List.setIfInBounds_toArray, List.set_cons_zero, List.set_cons_succ])
          refine wpF_take0 (i := 13) (v := ?v42) rfl (by kernel_rfl) (by kernel_rfl) (by kernel_rfl) (fun _ _ _ h => h) (by kernel_rfl) (Or.inl ⟨by rfl, ?hy42⟩) (HS0.out _ HX67.out) (fun _ => trivial) ?rest42
          case hy42 => (intro W hSW; (try dsimp only at hSW); go_simp; (try with_reducible rfl))
          (try simp only [Act.put, List.setIfInBounds_toArray, List.set_cons_zero, List.set_cons_succ])
          refine wpF_take0 (i := 14) (v := ?v43) rfl (by kernel_rfl) (by kernel_rfl) (by kernel_rfl) (fun _ _ _ h => h) (by kernel_rfl) (Or.inl ⟨by rfl, ?hy43⟩) (HS0.out _ HX67.out) (fun _ => trivial) ?rest43
          case hy43 => (intro W hSW; (try dsimp only at hSW); go_simp; (try with_reducible rfl))
          (try simp only [Act.put, List.setIfInBounds_toArray, List.set_cons_zero, List.set_cons_succ])
          refine wpF_done (by kernel_rfl) ?_ _
          refine NoPanic.normal ?_
          clear hu2 hu3 hu4 hdec hful hbg hu5
          have HFT := Lib.hid (write_fits HH.out.ok HW0.out)
          have HQ := Lib.hid (show writeS s n a bs = pushS s ⟨.wr n a.toNat, bs⟩ by unfold writeS; rw [if_pos HW0.out])
          have HAT := Lib.hid (show ((a.toNat : Nat) : Int) = a by have := HFT.out.2.2.2; omega)
          go_wp2_with (at_builtin; refine wpList_append_Rs kByte rfl (.tmp 61) (.tmp 62) 23 5 rfl tBytes w7.heap.size _ _ [] bs (w7.heap.size ≤ ·) S rfl rfl (Ow.slit (xs := []) (heap_alloc_new _ _) (Nat.le_refl _) (Nat.le_refl _) (by simp) (by simp)) ((HBS.out.ext HX7.out).alloc _) (fun _ _ h => h) (fun k hk => by simp at hk; omega) (by simpa using hbl) (by simp) ?_)
          intro v' w8 ho hg hbk
          have hx78 : Ext w7 w8 := ((Ext.refl w7).alloc _).grown hg (fun k hk => by have e : some w7.heap.size = some k := hk; injection e with e; omega)
          have HX8 := Lib.hid (HX7.out.trans hx78)
          obtain ⟨A8, c8, e8, -, -, -, -⟩ := ho.rs
          obtain ⟨l8, hl8⟩ : ∃ l, l = bs.length := ⟨_, rfl⟩
          have HO8 := Lib.hid (show Rs kByte w8 (fun k => w.heap.size ≤ k ∧ k < w8.heap.size) v' bs from ho.rs.bound.mono fun k hk => ⟨Nat.le_trans HX7.out.le hk.1, hk.2⟩)
          rw [← hl8] at e8
          subst e8
          clear ho hg hbk hx78 hl8
          have HAD := Lib.hid (radd_in (q := ⟨.wr n a.toNat, bs⟩) HH.out HX8.out HO8.out HFT.out.1 HFT.out.2.1 HC.out (fun h => absurd rfl (h n a.toNat)))
          unfold ractC rkind rname rto rat at HAD
          simp only [HAT.out] at HAD
          go_wp2_with fail
          refine HAD.out.mono ?_
          rintro e w9 ⟨rfl, hp⟩
          have HP := Lib.hid hp
          clear hp
          go_wp2_with fail
          go_ret
          rw [HQ.out]
          exact ⟨rfl, HP.out⟩
  by_cases hf : findF s n = 0
  · have HOF := Lib.hid (find_iff.1 hf).1
    have HF := Lib.hid hf
    have HNC := Lib.hid hcase
    rw [hf]
    clear hf hcase
    obtain ⟨z, lv, av, hy⟩ := HH.out.ext HX2.out
    have HFS := Lib.hid (Files_calls w2 x M D s z lv av hy)
    have hml := hy.ok.most
    clear hy
    go_wp2_with fail
    refine HFS.out.mono ?_
    rintro e w4 ⟨u, rfl, hu, hx4⟩
    have HU4 := Lib.hid hu
    have HX4 := Lib.hid (HX2.out.trans hx4)
    clear hu hx4
    go_wp2_with fail
    refine (get_calls w4 _ u s.seen n HU4.out).mono ?_
    rintro e w5 ⟨A, c, rfl, -, hx5⟩
    have HX5 := Lib.hid (HX4.out.trans hx5)
    obtain ⟨m, hm⟩ : ∃ m, m = (bytesK s.seen n).length := ⟨_, rfl⟩
    rw [← hm]
    have HML := Lib.hid (show s.len n = m from hm.symm)
    have hmb : m ≤ 1073741824 := by
      have h1 := HH.out.ok.len_le n
      have h2 := HH.out.ok.most
      rw [HML.out] at h1
      omega
    clear hm hx5
    by_cases h0 : a < 0
    · have hd : decide (a < 0) = true := decide_eq_true h0
      have HE := Lib.hid (show writeS s n a bs = (1, s) by
        have e : writeF s n a bs = 1 := by unfold writeF; rw [if_neg HNC.out, if_pos HF.out, if_pos (.inl h0)]
        unfold writeS
        rw [e, if_neg (by decide)])
      go_wp2_with fail
      go_ret
      rw [HE.out]
      exact ⟨rfl, HH.out.extp HX5.out⟩
    have hd : decide (a < 0) = false := decide_eq_false h0
    by_cases h1 : (m : Int) < a
    · have hd1 : decide ((m : Int) < a) = true := decide_eq_true h1
      have HE := Lib.hid (show writeS s n a bs = (1, s) by
        have e : writeF s n a bs = 1 := by unfold writeF; rw [if_neg HNC.out, if_pos HF.out, if_pos (.inr (by rw [HML.out]; exact h1))]
        unfold writeS
        rw [e, if_neg (by decide)])
      go_wp2_with fail
      go_ret
      rw [HE.out]
      exact ⟨rfl, HH.out.extp HX5.out⟩
    have hd1 : decide ((m : Int) < a) = false := decide_eq_false h1
    have HWF := Lib.hid (show writeF s n a bs = if s.room - s.used < bs.length then 7 else 0 by unfold writeF; rw [if_neg HNC.out, if_pos HF.out, if_neg (by rw [HML.out]; omega)])
    clear h1
    obtain ⟨us, hus⟩ : ∃ u, u = usedF s := ⟨_, rfl⟩
    have hu1 : us = (s.used : Int) := by rw [hus]; unfold usedF; rw [HOF.out]; rfl
    have hu2 : 0 ≤ us := by omega
    have hu3 : us ≤ s.room := by have := HH.out.ok.room; omega
    have hu5 : s.room ≤ 16777216 := by obtain ⟨z, lv, av, hy⟩ := HH.out; exact hy.most
    have HUU := Lib.hid hus
    have HU1 := Lib.hid hu1
    clear hus hu1
    by_cases hbig : 16777216 < bs.length
    · have HE := Lib.hid (show writeS s n a bs = (7, s) by
        have e : writeF s n a bs = 7 := by rw [HWF.out, if_pos (by have := HU1.out; omega)]
        unfold writeS
        rw [e, if_neg (by decide)])
      have hbg : decide ((16777216 : Int) < (bs.length : Int)) = true := decide_eq_true (by omega)
      go_upto_region 11 with fail
      obtain ⟨w6, hw6⟩ : ∃ W, W = w5.drew := ⟨_, rfl⟩
      have HX6 := Lib.hid (show Ext w w6 by rw [hw6]; exact HX5.out.drew)
      have HS0 := Lib.hid (show ∀ W : World, Ext w6 W → W.cell? ⟨x, 0, none⟩ = some (.int .i64 s.room) from fun W he => by
        obtain ⟨z, lv, av, hy⟩ := HH.out.ext (HX6.out.trans he)
        exact cell_blk hy.blk 0)
      have hlt6 : x < w6.heap.size := (HH.out.ext HX6.out).lt
      refine wpF_region (fun W => W.cell? ⟨x, 0, none⟩ = some (.int .i64 s.room)) (fun _ => True) 99 15 (by kernel_rfl) (by kernel_rfl) ?_
      rw [← hw6]
      clear hw6
      refine wpF_take0 (i := 0) (v := ?v44) rfl (by kernel_rfl) (by kernel_rfl) (by kernel_rfl) (fun _ _ _ h => h) (by kernel_rfl) (Or.inl ⟨by rfl, ?hy44⟩) (HS0.out _ (Ext.refl _)) (fun _ => trivial) ?rest44
      case hy44 => (intro W hSW; (try dsimp only at hSW); go_simp; (try with_reducible rfl))
      (try simp only [Act.put, List.setIfInBounds_toArray, List.set_cons_zero, List.set_cons_succ])
      refine wpF_take0 (i := 1) (v := ?v45) rfl (by kernel_rfl) (by kernel_rfl) (by kernel_rfl) (fun _ _ _ h => h) (by kernel_rfl) (Or.inl ⟨by rfl, ?hy45⟩) (HS0.out _ (Ext.refl _)) (fun _ => trivial) ?rest45
      case hy45 => (intro W hSW; (try dsimp only at hSW); go_simp; (try with_reducible rfl))
      (try simp only [Act.put, List.setIfInBounds_toArray, List.set_cons_zero, List.set_cons_succ])
      refine wpF_take0 (i := 2) (v := ?v46) rfl (by kernel_rfl) (by kernel_rfl) (by kernel_rfl) (fun _ _ _ h => h) (by kernel_rfl) (Or.inl ⟨by rfl, ?hy46⟩) (HS0.out _ (Ext.refl _)) (fun _ => trivial) ?rest46
      case hy46 => (intro W hSW; (try dsimp only at hSW); go_simp; (try with_reducible rfl))
      (try simp only [Act.put, List.setIfInBounds_toArray, List.set_cons_zero, List.set_cons_succ])
      refine wpF_take0 (i := 3) (v := ?v47) rfl (by kernel_rfl) (by kernel_rfl) (by kernel_rfl) (fun _ _ _ h => h) (by kernel_rfl) (Or.inl ⟨by rfl, ?hy47⟩) (HS0.out _ (Ext.refl _)) (fun _ => trivial) ?rest47
      case hy47 => (intro W hSW; (try dsimp only at hSW); go_simp; (try with_reducible rfl))
      (try simp only [Act.put, List.setIfInBounds_toArray, List.set_cons_zero, List.set_cons_succ])
      refine wpF_take0 (i := 4) (v := undef) rfl (by kernel_rfl) (by kernel_rfl) (by kernel_rfl) (fun _ _ _ h => h) (by kernel_rfl) (Or.inr ⟨by rfl, rfl⟩) (HS0.out _ (Ext.refl _)) (fun _ => trivial) ?rest48
      (try simp only [Act.put, List.setIfInBounds_toArray, List.set_cons_zero, List.set_cons_succ])
      refine wpF_take0 (i := 5) (v := undef) rfl (by kernel_rfl) (by kernel_rfl) (by kernel_rfl) (fun _ _ _ h => h) (by kernel_rfl) (Or.inr ⟨by rfl, rfl⟩) (HS0.out _ (Ext.refl _)) (fun _ => trivial) ?rest49
      (try simp only [Act.put, List.setIfInBounds_toArray, List.set_cons_zero, List.set_cons_succ])
      refine wpF_take0 (i := 6) (v := undef) rfl (by kernel_rfl) (by kernel_rfl) (by kernel_rfl) (fun _ _ _ h => h) (by kernel_rfl) (Or.inr ⟨by rfl, rfl⟩) (HS0.out _ (Ext.refl _)) (fun _ => trivial) ?rest50
      (try simp only [Act.put, List.setIfInBounds_toArray, List.set_cons_zero, List.set_cons_succ])
      refine wpF_take0 (i := 7) (v := undef) rfl (by kernel_rfl) (by kernel_rfl) (by kernel_rfl) (fun _ _ _ h => h) (by kernel_rfl) (Or.inr ⟨by rfl, rfl⟩) (HS0.out _ (Ext.refl _)) (fun _ => trivial) ?rest51
      (try simp only [Act.put, List.setIfInBounds_toArray, List.set_cons_zero, List.set_cons_succ])
      refine wpF_take0 (i := 8) (v := undef) rfl (by kernel_rfl) (by kernel_rfl) (by kernel_rfl) (fun _ _ _ h => h) (by kernel_rfl) (Or.inr ⟨by rfl, rfl⟩) (HS0.out _ (Ext.refl _)) (fun _ => trivial) ?rest52
      (try simp only [Act.put, List.setIfInBounds_toArray, List.set_cons_zero, List.set_cons_succ])
      refine wpF_take0 (i := 9) (v := undef) rfl (by kernel_rfl) (by kernel_rfl) (by kernel_rfl) (fun _ _ _ h => h) (by kernel_rfl) (Or.inr ⟨by rfl, rfl⟩) (HS0.out _ (Ext.refl _)) (fun _ => trivial) ?rest53
      (try simp only [Act.put, List.setIfInBounds_toArray, List.set_cons_zero, List.set_cons_succ])
      refine wpF_take0 (i := 10) (v := undef) rfl (by kernel_rfl) (by kernel_rfl) (by kernel_rfl) (fun _ _ _ h => h) (by kernel_rfl) (Or.inr ⟨by rfl, rfl⟩) (HS0.out _ (Ext.refl _)) (fun _ => trivial) ?rest54
      (try simp only [Act.put, List.setIfInBounds_toArray, List.set_cons_zero, List.set_cons_succ])
      refine wpF_take0 (i := 11) (v := undef) rfl (by kernel_rfl) (by kernel_rfl) (by kernel_rfl) (fun _ _ _ h => h) (by kernel_rfl) (Or.inr ⟨by rfl, rfl⟩) (HS0.out _ (Ext.refl _)) (fun _ => trivial) ?rest55
      (try simp only [Act.put, List.setIfInBounds_toArray, List.set_cons_zero, List.set_cons_succ])
      refine wpF_take0 (i := 12) (v := undef) rfl (by kernel_rfl) (by kernel_rfl) (by kernel_rfl) (fun _ _ _ h => h) (by kernel_rfl) (Or.inr ⟨by rfl, rfl⟩) (HS0.out _ (Ext.refl _)) (fun _ => trivial) ?rest56
      (try simp only [Act.put, List.setIfInBounds_toArray, List.set_cons_zero, List.set_cons_succ])
      refine wpF_take0 (i := 13) (v := undef) rfl (by kernel_rfl) (by kernel_rfl) (by kernel_rfl) (fun _ _ _ h => h) (by kernel_rfl) (Or.inr ⟨by rfl, rfl⟩) (HS0.out _ (Ext.refl _)) (fun _ => trivial) ?rest57
      (try simp only [Act.put, List.setIfInBounds_toArray, List.set_cons_zero, List.set_cons_succ])
      refine wpF_take0 (i := 14) (v := ?v58) rfl (by kernel_rfl) (by kernel_rfl) (by kernel_rfl) (fun _ _ _ h => h) (by kernel_rfl) (Or.inl ⟨by rfl, ?hy58⟩) (HS0.out _ (Ext.refl _)) (fun _ => trivial) ?rest58
      case hy58 => (intro W hSW; (try dsimp only at hSW); go_simp; (try with_reducible rfl))
      (try simp only [Act.put, List.setIfInBounds_toArray, List.set_cons_zero, List.set_cons_succ])
      obtain ⟨w7, hw7⟩ : ∃ W, W = w6 := ⟨_, rfl⟩
      have HX7 := Lib.hid (show Ext w w7 by rw [hw7]; exact HX6.out)
      rw [← hw7]
      clear hw7
      refine wpF_done (by kernel_rfl) ?_ _
      refine NoPanic.normal ?_
      go_wp2_with fail
      go_ret
      rw [HE.out]
      exact ⟨rfl, HH.out.extp HX7.out⟩
    · have hbg : decide ((16777216 : Int) < (bs.length : Int)) = false := decide_eq_false (by omega)
      have hu4 : IntKind.i64.wrap (us + bs.length) = us + bs.length := IntWalk.i64_in _ (by omega)
      by_cases hful : s.room < us + (bs.length : Int)
      · have HE := Lib.hid (show writeS s n a bs = (7, s) by
          have e : writeF s n a bs = 7 := by rw [HWF.out, if_pos (by have := HU1.out; omega)]
          unfold writeS
          rw [e, if_neg (by decide)])
        have hdec : decide (s.room < us + (bs.length : Int)) = true := decide_eq_true hful
        go_upto_region 11 with fail
        obtain ⟨w6, hw6⟩ : ∃ W, W = w5.drew := ⟨_, rfl⟩
        have HX6 := Lib.hid (show Ext w w6 by rw [hw6]; exact HX5.out.drew)
        have HS0 := Lib.hid (show ∀ W : World, Ext w6 W → W.cell? ⟨x, 0, none⟩ = some (.int .i64 s.room) from fun W he => by
          obtain ⟨z, lv, av, hy⟩ := HH.out.ext (HX6.out.trans he)
          exact cell_blk hy.blk 0)
        have hlt6 : x < w6.heap.size := (HH.out.ext HX6.out).lt
        refine wpF_region (fun W => W.cell? ⟨x, 0, none⟩ = some (.int .i64 s.room)) (fun _ => True) 99 15 (by kernel_rfl) (by kernel_rfl) ?_
        rw [← hw6]
        clear hw6
        refine wpF_take0 (i := 0) (v := ?v59) rfl (by kernel_rfl) (by kernel_rfl) (by kernel_rfl) (fun _ _ _ h => h) (by kernel_rfl) (Or.inl ⟨by rfl, ?hy59⟩) (HS0.out _ (Ext.refl _)) (fun _ => trivial) ?rest59
        case hy59 => (intro W hSW; (try dsimp only at hSW); go_simp; (try with_reducible rfl))
        (try simp only [Act.put, List.setIfInBounds_toArray, List.set_cons_zero, List.set_cons_succ])
        refine wpF_take0 (i := 1) (v := ?v60) rfl (by kernel_rfl) (by kernel_rfl) (by kernel_rfl) (fun _ _ _ h => h) (by kernel_rfl) (Or.inl ⟨by rfl, ?hy60⟩) (HS0.out _ (Ext.refl _)) (fun _ => trivial) ?rest60
        case hy60 => (intro W hSW; (try dsimp only at hSW); go_simp; (try with_reducible rfl))
        (try simp only [Act.put, List.setIfInBounds_toArray, List.set_cons_zero, List.set_cons_succ])
        refine wpF_take0 (i := 2) (v := ?v61) rfl (by kernel_rfl) (by kernel_rfl) (by kernel_rfl) (fun _ _ _ h => h) (by kernel_rfl) (Or.inl ⟨by rfl, ?hy61⟩) (HS0.out _ (Ext.refl _)) (fun _ => trivial) ?rest61
        case hy61 => (intro W hSW; (try dsimp only at hSW); go_simp; (try with_reducible rfl))
        (try simp only [Act.put, List.setIfInBounds_toArray, List.set_cons_zero, List.set_cons_succ])
        refine wpF_take0 (i := 3) (v := ?v62) rfl (by kernel_rfl) (by kernel_rfl) (by kernel_rfl) (fun _ _ _ h => h) (by kernel_rfl) (Or.inl ⟨by rfl, ?hy62⟩) (HS0.out _ (Ext.refl _)) (fun _ => trivial) ?rest62
        case hy62 => (intro W hSW; (try dsimp only at hSW); go_simp; (try with_reducible rfl))
        (try simp only [Act.put, List.setIfInBounds_toArray, List.set_cons_zero, List.set_cons_succ])
        refine wpF_take0 (i := 4) (v := ?v63) rfl (by kernel_rfl) (by kernel_rfl) (by kernel_rfl) (fun _ _ _ h => h) (by kernel_rfl) (Or.inl ⟨by rfl, ?hy63⟩) (HS0.out _ (Ext.refl _)) (fun _ => trivial) ?rest63
        case hy63 => (intro W hSW; (try dsimp only at hSW); go_simp; (try with_reducible rfl))
        (try simp only [Act.put, List.setIfInBounds_toArray, List.set_cons_zero, List.set_cons_succ])
        refine wpF_take0 (i := 6) (v := ?v64) rfl (by kernel_rfl) (by kernel_rfl) (by kernel_rfl) (fun _ _ _ h => h) (by kernel_rfl) (Or.inl ⟨by rfl, ?hy64⟩) (HS0.out _ (Ext.refl _)) (fun _ => trivial) ?rest64
        case hy64 => (intro W hSW; (try dsimp only at hSW); go_simp; (try with_reducible rfl))
        (try simp only [Act.put, List.setIfInBounds_toArray, List.set_cons_zero, List.set_cons_succ])
        refine wpF_take0 (i := 7) (v := ?v65) rfl (by kernel_rfl) (by kernel_rfl) (by kernel_rfl) (fun _ _ _ h => h) (by kernel_rfl) (Or.inl ⟨by rfl, ?hy65⟩) (HS0.out _ (Ext.refl _)) (fun _ => trivial) ?rest65
        case hy65 => (intro W hSW; (try dsimp only at hSW); go_simp; (try with_reducible rfl))
        (try simp only [Act.put, List.setIfInBounds_toArray, List.set_cons_zero, List.set_cons_succ])
        refine wpF_take0 (i := 9) (v := ?v66) rfl (by kernel_rfl) (by kernel_rfl) (by kernel_rfl) (fun _ _ _ h => h) (by kernel_rfl) (Or.inl ⟨by rfl, ?hy66⟩) (HS0.out _ (Ext.refl _)) (fun _ => trivial) ?rest66
        case hy66 => (intro W hSW; (try dsimp only at hSW); go_simp; (try with_reducible rfl))
        (try simp only [Act.put, List.setIfInBounds_toArray, List.set_cons_zero, List.set_cons_succ])
        refine wpF_take0 (i := 10) (v := ?v67) rfl (by kernel_rfl) (by kernel_rfl) (by kernel_rfl) (fun _ _ _ h => h) (by kernel_rfl) (Or.inl ⟨by rfl, ?hy67⟩) (HS0.out _ (Ext.refl _)) (fun _ => trivial) ?rest67
        case hy67 => (intro W hSW; (try dsimp only at hSW); go_simp; (try with_reducible rfl))
        (try simp only [Act.put, List.setIfInBounds_toArray, List.set_cons_zero, List.set_cons_succ])
        refine wpF_take0 (i := 11) (v := ?v68) rfl (by kernel_rfl) (by kernel_rfl) (by kernel_rfl) (fun _ _ _ h => h) (by kernel_rfl) (Or.inl ⟨by rfl, ?hy68⟩) (HS0.out _ (Ext.refl _)) (fun _ => trivial) ?rest68
        case hy68 => (intro W hSW; (try dsimp only at hSW); go_simp; (try with_reducible rfl))
        (try simp only [Act.put, List.setIfInBounds_toArray, List.set_cons_zero, List.set_cons_succ])
        refine wpF_take0 (i := 12) (v := ?v69) rfl (by kernel_rfl) (by kernel_rfl) (by kernel_rfl) (fun _ _ _ h => h) (by kernel_rfl) (Or.inl ⟨by rfl, ?hy69⟩) (HS0.out _ (Ext.refl _)) (fun _ => trivial) ?rest69
        case hy69 => (intro W hSW; (try dsimp only at hSW); go_simp; (try with_reducible rfl))
        (try simp only [Act.put, List.setIfInBounds_toArray, List.set_cons_zero, List.set_cons_succ])
        refine wpF_step (i := 5) (by kernel_rfl) rfl (fun K hK => ?_)
        go_simp
        refine (RUsed_calls w6 x M D s (HH.out.ext HX6.out)).mono ?_
        rw [← HUU.out]
        rintro e w7 ⟨rfl, hx7⟩
        have HX67 := Lib.hid hx7
        have HX7 := Lib.hid (HX6.out.trans hx7)
        clear hx7
        (try go_wp2_with fail)
        refine hK.out _ _ (HS0.out _ HX67.out) (fun _ => trivial) ?_
        clear hK K
        (try simp only [Act.put, List.setIfInBounds_toArray, List.set_cons_zero, List.set_cons_succ])
        refine wpF_take0 (i := 8) (v := ?v70) rfl (by kernel_rfl) (by kernel_rfl) (by kernel_rfl) (fun _ _ _ h => h) (by kernel_rfl) (Or.inl ⟨by rfl, ?hy70⟩) (HS0.out _ HX67.out) (fun _ => trivial) ?rest70
        case hy70 => (intro W hSW; (try dsimp only at hSW); go_simp; (try with_reducible rfl))
        (try simp only [Act.put, List.setIfInBounds_toArray, List.set_cons_zero, List.set_cons_succ])
        refine wpF_take0 (i := 13) (v := ?v71) rfl (by kernel_rfl) (by kernel_rfl) (by kernel_rfl) (fun _ _ _ h => h) (by kernel_rfl) (Or.inl ⟨by rfl, ?hy71⟩) (HS0.out _ HX67.out) (fun _ => trivial) ?rest71
        case hy71 => (intro W hSW; (try dsimp only at hSW); go_simp; (try with_reducible rfl))
        (try simp only [Act.put, List.setIfInBounds_toArray, List.set_cons_zero, List.set_cons_succ])
        refine wpF_take0 (i := 14) (v := ?v72) rfl (by kernel_rfl) (by kernel_rfl) (by kernel_rfl) (fun _ _ _ h => h) (by kernel_rfl) (Or.inl ⟨by rfl, ?hy72⟩) (HS0.out _ HX67.out) (fun _ => trivial) ?rest72
        case hy72 => (intro W hSW; (try dsimp only at hSW); go_simp; (try with_reducible rfl))
        (try simp only [Act.put, List.setIfInBounds_toArray, List.set_cons_zero, List.set_cons_succ])
        refine wpF_done (by kernel_rfl) ?_ _
        refine NoPanic.normal ?_
        go_wp2_with fail
        go_ret
        rw [HE.out]
        exact ⟨rfl, HH.out.extp HX7.out⟩
      · have HW0 := Lib.hid (show writeF s n a bs = 0 by rw [HWF.out, if_neg (by have := HU1.out; omega)])
        have hdec : decide (s.room < us + (bs.length : Int)) = false := decide_eq_false hful
        go_upto_region 11 with fail
        obtain ⟨w6, hw6⟩ : ∃ W, W = w5.drew := ⟨_, rfl⟩
        have HX6 := Lib.hid (show Ext w w6 by rw [hw6]; exact HX5.out.drew)
        have HS0 := Lib.hid (show ∀ W : World, Ext w6 W → W.cell? ⟨x, 0, none⟩ = some (.int .i64 s.room) from fun W he => by
          obtain ⟨z, lv, av, hy⟩ := HH.out.ext (HX6.out.trans he)
          exact cell_blk hy.blk 0)
        have hlt6 : x < w6.heap.size := (HH.out.ext HX6.out).lt
        refine wpF_region (fun W => W.cell? ⟨x, 0, none⟩ = some (.int .i64 s.room)) (fun _ => True) 99 15 (by kernel_rfl) (by kernel_rfl) ?_
        rw [← hw6]
        clear hw6
        refine wpF_take0 (i := 0) (v := ?v73) rfl (by kernel_rfl) (by kernel_rfl) (by kernel_rfl) (fun _ _ _ h => h) (by kernel_rfl) (Or.inl ⟨by rfl, ?hy73⟩) (HS0.out _ (Ext.refl _)) (fun _ => trivial) ?rest73
        case hy73 => (intro W hSW; (try dsimp only at hSW); go_simp; (try with_reducible rfl))
        (try simp only [Act.put, List.setIfInBounds_toArray, List.set_cons_zero, List.set_cons_succ])
        refine wpF_take0 (i := 1) (v := ?v74) rfl (by kernel_rfl) (by kernel_rfl) (by kernel_rfl) (fun _ _ _ h => h) (by kernel_rfl) (Or.inl ⟨by rfl, ?hy74⟩) (HS0.out _ (Ext.refl _)) (fun _ => trivial) ?rest74
        case hy74 => (intro W hSW; (try dsimp only at hSW); go_simp; (try with_reducible rfl))
        (try simp only [Act.put, List.setIfInBounds_toArray, List.set_cons_zero, List.set_cons_succ])
        refine wpF_take0 (i := 2) (v := ?v75) rfl (by kernel_rfl) (by kernel_rfl) (by kernel_rfl) (fun _ _ _ h => h) (by kernel_rfl) (Or.inl ⟨by rfl, ?hy75⟩) (HS0.out _ (Ext.refl _)) (fun _ => trivial) ?rest75
        case hy75 => (intro W hSW; (try dsimp only at hSW); go_simp; (try with_reducible rfl))
        (try simp only [Act.put, List.setIfInBounds_toArray, List.set_cons_zero, List.set_cons_succ])
        refine wpF_take0 (i := 3) (v := ?v76) rfl (by kernel_rfl) (by kernel_rfl) (by kernel_rfl) (fun _ _ _ h => h) (by kernel_rfl) (Or.inl ⟨by rfl, ?hy76⟩) (HS0.out _ (Ext.refl _)) (fun _ => trivial) ?rest76
        case hy76 => (intro W hSW; (try dsimp only at hSW); go_simp; (try with_reducible rfl))
        (try simp only [Act.put, List.setIfInBounds_toArray, List.set_cons_zero, List.set_cons_succ])
        refine wpF_take0 (i := 4) (v := ?v77) rfl (by kernel_rfl) (by kernel_rfl) (by kernel_rfl) (fun _ _ _ h => h) (by kernel_rfl) (Or.inl ⟨by rfl, ?hy77⟩) (HS0.out _ (Ext.refl _)) (fun _ => trivial) ?rest77
        case hy77 => (intro W hSW; (try dsimp only at hSW); go_simp; (try with_reducible rfl))
        (try simp only [Act.put, List.setIfInBounds_toArray, List.set_cons_zero, List.set_cons_succ])
        refine wpF_take0 (i := 6) (v := ?v78) rfl (by kernel_rfl) (by kernel_rfl) (by kernel_rfl) (fun _ _ _ h => h) (by kernel_rfl) (Or.inl ⟨by rfl, ?hy78⟩) (HS0.out _ (Ext.refl _)) (fun _ => trivial) ?rest78
        case hy78 => (intro W hSW; (try dsimp only at hSW); go_simp; (try with_reducible rfl))
        (try simp only [Act.put, List.setIfInBounds_toArray, List.set_cons_zero, List.set_cons_succ])
        refine wpF_take0 (i := 7) (v := ?v79) rfl (by kernel_rfl) (by kernel_rfl) (by kernel_rfl) (fun _ _ _ h => h) (by kernel_rfl) (Or.inl ⟨by rfl, ?hy79⟩) (HS0.out _ (Ext.refl _)) (fun _ => trivial) ?rest79
        case hy79 => (intro W hSW; (try dsimp only at hSW); go_simp; (try with_reducible rfl))
        (try simp only [Act.put, List.setIfInBounds_toArray, List.set_cons_zero, List.set_cons_succ])
        refine wpF_take0 (i := 9) (v := ?v80) rfl (by kernel_rfl) (by kernel_rfl) (by kernel_rfl) (fun _ _ _ h => h) (by kernel_rfl) (Or.inl ⟨by rfl, ?hy80⟩) (HS0.out _ (Ext.refl _)) (fun _ => trivial) ?rest80
        case hy80 => (intro W hSW; (try dsimp only at hSW); go_simp; (try with_reducible rfl))
        (try simp only [Act.put, List.setIfInBounds_toArray, List.set_cons_zero, List.set_cons_succ])
        refine wpF_take0 (i := 10) (v := ?v81) rfl (by kernel_rfl) (by kernel_rfl) (by kernel_rfl) (fun _ _ _ h => h) (by kernel_rfl) (Or.inl ⟨by rfl, ?hy81⟩) (HS0.out _ (Ext.refl _)) (fun _ => trivial) ?rest81
        case hy81 => (intro W hSW; (try dsimp only at hSW); go_simp; (try with_reducible rfl))
        (try simp only [Act.put, List.setIfInBounds_toArray, List.set_cons_zero, List.set_cons_succ])
        refine wpF_take0 (i := 11) (v := ?v82) rfl (by kernel_rfl) (by kernel_rfl) (by kernel_rfl) (fun _ _ _ h => h) (by kernel_rfl) (Or.inl ⟨by rfl, ?hy82⟩) (HS0.out _ (Ext.refl _)) (fun _ => trivial) ?rest82
        case hy82 => (intro W hSW; (try dsimp only at hSW); go_simp; (try with_reducible rfl))
        (try simp only [Act.put, List.setIfInBounds_toArray, List.set_cons_zero, List.set_cons_succ])
        refine wpF_take0 (i := 12) (v := ?v83) rfl (by kernel_rfl) (by kernel_rfl) (by kernel_rfl) (fun _ _ _ h => h) (by kernel_rfl) (Or.inl ⟨by rfl, ?hy83⟩) (HS0.out _ (Ext.refl _)) (fun _ => trivial) ?rest83
        case hy83 => (intro W hSW; (try dsimp only at hSW); go_simp; (try with_reducible rfl))
        (try simp only [Act.put, List.setIfInBounds_toArray, List.set_cons_zero, List.set_cons_succ])
        refine wpF_step (i := 5) (by kernel_rfl) rfl (fun K hK => ?_)
        go_simp
        refine (RUsed_calls w6 x M D s (HH.out.ext HX6.out)).mono ?_
        rw [← HUU.out]
        rintro e w7 ⟨rfl, hx7⟩
        have HX67 := Lib.hid hx7
        have HX7 := Lib.hid (HX6.out.trans hx7)
        clear hx7
        (try go_wp2_with fail)
        refine hK.out _ _ (HS0.out _ HX67.out) (fun _ => trivial) ?_
        clear hK K
        (try simp only [Act.put, List.setIfInBounds_toArray, List.set_cons_zero, List.set_cons_succ])
        refine wpF_take0 (i := 8) (v := ?v84) rfl (by kernel_rfl) (by kernel_rfl) (by kernel_rfl) (fun _ _ _ h => h) (by kernel_rfl) (Or.inl ⟨by rfl, ?hy84⟩) (HS0.out _ HX67.out) (fun _ => trivial) ?rest84
        case hy84 => (intro W hSW; (try dsimp only at hSW); go_simp; (try with_reducible rfl))
        (try simp only [Act.put, List.setIfInBounds_toArray, List.set_cons_zero, List.set_cons_succ])
        refine wpF_take0 (i := 13) (v := ?v85) rfl (by kernel_rfl) (by kernel_rfl) (by kernel_rfl) (fun _ _ _ h => h) (by kernel_rfl) (Or.inl ⟨by rfl, ?hy85⟩) (HS0.out _ HX67.out) (fun _ => trivial) ?rest85
        case hy85 => (intro W hSW; (try dsimp only at hSW); go_simp; (try with_reducible rfl))
        (try simp only [Act.put, List.setIfInBounds_toArray, List.set_cons_zero, List.set_cons_succ])
        refine wpF_take0 (i := 14) (v := ?v86) rfl (by kernel_rfl) (by kernel_rfl) (by kernel_rfl) (fun _ _ _ h => h) (by kernel_rfl) (Or.inl ⟨by rfl, ?hy86⟩) (HS0.out _ HX67.out) (fun _ => trivial) ?rest86
        case hy86 => (intro W hSW; (try dsimp only at hSW); go_simp; (try with_reducible rfl))
        (try simp only [Act.put, List.setIfInBounds_toArray, List.set_cons_zero, List.set_cons_succ])
        refine wpF_done (by kernel_rfl) ?_ _
        refine NoPanic.normal ?_
        clear hu2 hu3 hu4 hdec hful hbg hu5
        have HFT := Lib.hid (write_fits HH.out.ok HW0.out)
        have HQ := Lib.hid (show writeS s n a bs = pushS s ⟨.wr n a.toNat, bs⟩ by unfold writeS; rw [if_pos HW0.out])
        have HAT := Lib.hid (show ((a.toNat : Nat) : Int) = a by have := HFT.out.2.2.2; omega)
        go_wp2_with (at_builtin; refine wpList_append_Rs kByte rfl (.tmp 61) (.tmp 62) 23 5 rfl tBytes w7.heap.size _ _ [] bs (w7.heap.size ≤ ·) S rfl rfl (Ow.slit (xs := []) (heap_alloc_new _ _) (Nat.le_refl _) (Nat.le_refl _) (by simp) (by simp)) ((HBS.out.ext HX7.out).alloc _) (fun _ _ h => h) (fun k hk => by simp at hk; omega) (by simpa using hbl) (by simp) ?_)
        intro v' w8 ho hg hbk
        have hx78 : Ext w7 w8 := ((Ext.refl w7).alloc _).grown hg (fun k hk => by have e : some w7.heap.size = some k := hk; injection e with e; omega)
        have HX8 := Lib.hid (HX7.out.trans hx78)
        obtain ⟨A8, c8, e8, -, -, -, -⟩ := ho.rs
        obtain ⟨l8, hl8⟩ : ∃ l, l = bs.length := ⟨_, rfl⟩
        have HO8 := Lib.hid (show Rs kByte w8 (fun k => w.heap.size ≤ k ∧ k < w8.heap.size) v' bs from ho.rs.bound.mono fun k hk => ⟨Nat.le_trans HX7.out.le hk.1, hk.2⟩)
        rw [← hl8] at e8
        subst e8
        clear ho hg hbk hx78 hl8
        have HAD := Lib.hid (radd_in (q := ⟨.wr n a.toNat, bs⟩) HH.out HX8.out HO8.out HFT.out.1 HFT.out.2.1 HC.out (fun h => absurd rfl (h n a.toNat)))
        unfold ractC rkind rname rto rat at HAD
        simp only [HAT.out] at HAD
        go_wp2_with fail
        refine HAD.out.mono ?_
        rintro e w9 ⟨rfl, hp⟩
        have HP := Lib.hid hp
        clear hp
        go_wp2_with fail
        go_ret
        rw [HQ.out]
        exact ⟨rfl, HP.out⟩
  · have HE := Lib.hid (show writeS s n a bs = (findF s n, s) by
      have e : writeF s n a bs = findF s n := by unfold writeF; rw [if_neg hcase, if_neg hf]
      unfold writeS
      rw [e, if_neg hf])
    obtain ⟨r, hr⟩ : ∃ r, r = findF s n := ⟨_, rfl⟩
    rw [← hr] at hf hcase ⊢
    have hf2 : (r != 0) = true := bne_iff_ne.2 hf
    have HR := Lib.hid hr
    clear hr hf
    by_cases h21 : r = 21
    · have ha0 : (a == 0) = false := beq_eq_false_iff_ne.2 fun e => hcase ⟨h21, e⟩
      have hrr : (r == 21) = true := beq_iff_eq.2 h21
      clear hcase h21
      go_wp2_with fail
      go_ret
      rw [HE.out, HR.out]
      exact ⟨rfl, HH.out.extp HX2.out⟩
    · have hrr : (r == 21) = false := beq_eq_false_iff_ne.2 h21
      clear hcase h21
      go_wp2_with fail
      go_ret
      rw [HE.out, HR.out]
      exact ⟨rfl, HH.out.extp HX2.out⟩

end Go.Proofs.Ytjjhmknlhfijjaa
