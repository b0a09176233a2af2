/-
  Texts of this claim, put together: DrDo3, DrName, DrDisk, DrFiles, DrWhy, DrFal.
-/
import Derived.Test.YtjjhmknlhfijjaaZ17
import Derived.Test.YtjjhmknlhfijjaaZ3
set_option linter.unusedVariables false
set_option linter.unusedSimpArgs false
namespace Go.Proofs.Ytjjhmknlhfijjaa
open Go.RowKit

/-- What is written so far. -/
def wpart (old : Nam) (a : Nat) (bs : Nam) (k : Nat) : Nam := old.take a ++ bs ++ (old.drop (a + bs.length)).take (k - (a + bs.length))
theorem wpart_step (old : Nam) (a : Nat) (bs : Nam) (k : Nat) (h1 : a + bs.length ≤ k) (h2 : k < old.length) : wpart old a bs (k + 1) = wpart old a bs k ++ [old[k]] := by
  unfold wpart
  rw [List.append_assoc (old.take a ++ bs)]
  congr 1
  have h3 : k - (a + bs.length) < (old.drop (a + bs.length)).length := by rw [List.length_drop]; omega
  have e : (old.drop (a + bs.length))[k - (a + bs.length)] = old[k] := by
    rw [List.getElem_drop]
    congr 1
    omega
  rw [show k + 1 - (a + bs.length) = (k - (a + bs.length)) + 1 by omega, List.take_succ_eq_append_getElem h3, e]
theorem wpart_end (old : Nam) (a : Nat) (bs : Nam) (k : Nat) (h : old.length ≤ k) : wpart old a bs k = ins old a bs := by
  unfold wpart ins
  rw [List.take_of_length_le (l := old.drop (a + bs.length)) (by rw [List.length_drop]; omega)]
theorem wpart_len (old : Nam) (a : Nat) (bs : Nam) (k : Nat) : (wpart old a bs k).length ≤ old.length + bs.length + old.length := by
  unfold wpart
  simp only [List.length_append, List.length_take, List.length_drop]
  omega
theorem wpart_zero (old : Nam) (a : Nat) (bs : Nam) : wpart old a bs (a + bs.length) = old.take a ++ bs := by
  unfold wpart
  rw [Nat.sub_self, List.take_zero, List.append_nil]
set_option maxRecDepth 1000000 in
set_option maxHeartbeats 3200000 in
theorem Do_wr (w : World) (S : Nat → Prop) (lv v : Value) (L : KL Nam) (n : Nam) (a : Nat) (bs : Nam) (h : Rs kFile w S lv L) (hv : Rs kByte w S v bs) (hS : ∀ b, S b → b < w.heap.size) (hL : L.length ≤ 90000) (hfit : fitA L (.wr n a)) (hsz : sumK L + bs.length ≤ 1073741824) (hn : n.length ≤ 9223372036854775807) :
    Calls Try.prog 76 #[lv, .agg (ractC (.wr n a) v)] w (FilesP w S (doA L (.wr n a) bs)) := by
  obtain ⟨Av, cv, e, -⟩ := id hv
  subst e
  obtain ⟨Al, cl, e, -⟩ := id h
  subst e
  obtain ⟨ka, hK⟩ : ∃ ka : ActK, ka = (.wr n a) := ⟨_, rfl⟩
  have HKE := Lib.hid hK
  have HKC := Lib.hid (show rkind ka = 0 from by rw [hK]; rfl)
  obtain ⟨w1, hw1⟩ : ∃ w1, w1 = w.alloc (.cells (ractC ka (.slice Av bs.length cv)) 97) := ⟨_, rfl⟩
  obtain ⟨g, hg⟩ : ∃ g, g = w.heap.size := ⟨_, rfl⟩
  have hx1 : Ext w w1 := by rw [hw1]; exact (Ext.refl w).alloc _
  have HX1 := Lib.hid hx1
  have HB1 := Lib.hid (show w1.heap[g]? = some (.cells (ractC ka (.slice Av bs.length cv)) 97 (0, 0)) by rw [hw1]; exact heap_new w g hg.symm _)
  have HRL := Lib.hid h
  have HRV := Lib.hid hv
  have HSS := Lib.hid hS
  have HL := Lib.hid hL
  have HFIT := Lib.hid hfit
  have HSZ := Lib.hid hsz
  have HNM := Lib.hid (show (rname ka).length ≤ 9223372036854775807 ∧ (rto ka).length ≤ 9223372036854775807 from by rw [hK]; exact ⟨by exact hn, by simp [rto]⟩)
  have HGT := Lib.hid (get_calls w1 S _ L (rname ka) (h.ext hx1))
  rw [← hK]
  clear h hv hS hL hfit hsz hx1
  have HC := Lib.hid (show ∀ W : World, Ext w1 W → W.cell? ⟨g, 0, none⟩ = some (.int .i64 0) ∧ W.cell? ⟨g, 1, none⟩ = some (.string ⟨(rname ka).toArray⟩) ∧ W.cell? ⟨g, 2, none⟩ = some (.string ⟨(rto ka).toArray⟩) ∧ W.cell? ⟨g, 3, none⟩ = some (.int .i64 (rat ka : Int)) ∧ W.cell? ⟨g, 4, none⟩ = some (.slice Av bs.length cv) from
    fun W he => ⟨by rw [← HKC.out]; exact cell_blk (blk_ext HB1.out he) 0, cell_blk (blk_ext HB1.out he) 1, cell_blk (blk_ext HB1.out he) 2, cell_blk (blk_ext HB1.out he) 3, cell_blk (blk_ext HB1.out he) 4⟩)
  have HRAT := Lib.hid (show rat ka = a from by rw [hK]; rfl)
  unfold ractC at hw1 ⊢
  rw [HKC.out] at hw1 ⊢
  clear hK
  go_enter Try.func76, Try.ntmps76
  go_upto_region 1 with fail
  rw [← hw1, ← hg]
  have hgl : g < w1.heap.size := blk_lt HB1.out
  clear hw1 hg
  obtain ⟨x0, x1, x2, x3, x4⟩ := HC.out w1 (Ext.refl _)
  go_wp2_with fail
  refine HGT.out.mono ?_
  rintro e w2 ⟨Ao, co, rfl, hro, hx2⟩
  have HRO := Lib.hid hro
  have HX2 := Lib.hid hx2
  have HX12 := Lib.hid (HX1.out.trans hx2)
  have HOL := Lib.hid (show (bytesK L (rname ka)).length ≤ sumK L from bytesK_le _)
  clear x0 x1 x2 x3 x4 hx2 hro
  obtain ⟨x0, x1, x2, x3, x4⟩ := HC.out w2 HX2.out
  have hgl2 : g < w2.heap.size := Nat.lt_of_lt_of_le hgl HX2.out.le
  have HFA := Lib.hid (show rat ka ≤ (bytesK L (rname ka)).length by rw [HRAT.out]; have h := HFIT.out; rw [HKE.out]; exact h)
  obtain ⟨hm1, hm2, hm3, hm4, -⟩ := HRO.out.shape
  have hto := slice_to tBytes Ao (bytesK L (rname ka)).length co .i64 (rat ka : Int) (rat ka) rfl (by have := HFA.out; omega)
  have HPT := Lib.hid (HRO.out.to_ (h := rat ka) rfl HFA.out)
  simp only [partV_eq, Nat.sub_zero] at hto HPT
  have HTL := Lib.hid (show ((bytesK L (rname ka)).take (rat ka)).length = rat ka by rw [List.length_take]; have := HFA.out; omega)
  have HLEN := Lib.hid (show (bytesK L (rname ka)).length + bs.length ≤ 1073741824 by have h1 := HOL.out; have h2 := HSZ.out; omega)
  clear hm1 hm2 hm3 hm4
  go_upto_region 5 with fail
  have hx0 := Lib.hid ((Ext.refl w2).drew)
  have H0 := Lib.hid (HC.out _ (HX2.out.trans hx0.out)).2
  clear x0 x1 x2 x3 x4
  refine wpF_region (fun W => W.cell? ⟨g, 1, none⟩ = some (.string ⟨(rname ka).toArray⟩) ∧ W.cell? ⟨g, 2, none⟩ = some (.string ⟨(rto ka).toArray⟩) ∧ W.cell? ⟨g, 3, none⟩ = some (.int .i64 (rat ka : Int)) ∧ W.cell? ⟨g, 4, none⟩ = some (.slice Av bs.length cv)) (fun _ => True) 99 10 (by kernel_rfl) (by kernel_rfl) ?_
  refine wpF_take0 (i := 1) (v := ?v16) rfl (by kernel_rfl) (by kernel_rfl) (by kernel_rfl) (fun _ _ _ h => h) (by kernel_rfl) (Or.inl ⟨by rfl, ?hy16⟩) H0.out (fun _ => trivial) ?rest16
  case hy16 => (intro W hSW; (try dsimp only at hSW); go_simp; (try with_reducible rfl))
  (try simp only [Act.put, List.setIfInBounds_toArray, List.set_cons_zero, List.set_cons_succ])
  refine wpF_take0 (i := 2) (v := ?v17) rfl (by kernel_rfl) (by kernel_rfl) (by kernel_rfl) (fun _ _ _ h => h) (by kernel_rfl) (Or.inl ⟨by rfl, ?hy17⟩) H0.out (fun _ => trivial) ?rest17
  case hy17 => (intro W hSW; (try dsimp only at hSW); go_simp; (try with_reducible rfl))
  (try simp only [Act.put, List.setIfInBounds_toArray, List.set_cons_zero, List.set_cons_succ])
  refine wpF_take0 (i := 3) (v := ?v18) rfl (by kernel_rfl) (by kernel_rfl) (by kernel_rfl) (fun _ _ _ h => h) (by kernel_rfl) (Or.inl ⟨by rfl, ?hy18⟩) H0.out (fun _ => trivial) ?rest18
  case hy18 => (intro W hSW; (try dsimp only at hSW); go_simp; (try with_reducible rfl))
  (try simp only [Act.put, List.setIfInBounds_toArray, List.set_cons_zero, List.set_cons_succ])
  refine wpF_take0 (i := 4) (v := ?v19) rfl (by kernel_rfl) (by kernel_rfl) (by kernel_rfl) (fun _ _ _ h => h) (by kernel_rfl) (Or.inl ⟨by rfl, ?hy19⟩) H0.out (fun _ => trivial) ?rest19
  case hy19 => (intro W hSW; (try dsimp only at hSW); go_simp; (try with_reducible rfl))
  (try simp only [Act.put, List.setIfInBounds_toArray, List.set_cons_zero, List.set_cons_succ])
  refine wpF_take0 (i := 6) (v := ?v20) rfl (by kernel_rfl) (by kernel_rfl) (by kernel_rfl) (fun _ _ _ h => h) (by kernel_rfl) (Or.inl ⟨by rfl, ?hy20⟩) H0.out (fun _ => trivial) ?rest20
  case hy20 => (intro W hSW; (try dsimp only at hSW); go_simp; (try with_reducible rfl))
  (try simp only [Act.put, List.setIfInBounds_toArray, List.set_cons_zero, List.set_cons_succ])
  refine wpF_take0 (i := 7) (v := ?v21) rfl (by kernel_rfl) (by kernel_rfl) (by kernel_rfl) (fun _ _ _ h => h) (by kernel_rfl) (Or.inl ⟨by rfl, ?hy21⟩) H0.out (fun _ => trivial) ?rest21
  case hy21 => (intro W hSW; (try dsimp only at hSW); go_simp; (try with_reducible rfl))
  (try simp only [Act.put, List.setIfInBounds_toArray, List.set_cons_zero, List.set_cons_succ])
  have hx1 := Lib.hid (((Ext.refl w2).drew).alloc (.cells #[] 5))
  have H1 := Lib.hid (HC.out _ (HX2.out.trans hx1.out)).2
  refine wpF_step (i := 0) (by kernel_rfl) rfl (fun K hK => ?_)
  go_simp
  refine hK.out _ _ H1.out (fun _ => trivial) ?_
  clear hK K
  (try simp only [Act.put, List.setIfInBounds_toArray, List.set_cons_zero, List.set_cons_succ])
  refine wpF_step (i := 5) (by kernel_rfl) rfl (fun K hK => ?_)
  refine step_append_Rs kByte 29 rfl rfl (.tmp 24) (.tmp 28) 23 5 rfl tBytes w2.heap.size _ _ [] ((bytesK L (rname ka)).take (rat ka)) (w2.heap.size ≤ ·) S rfl rfl (Ow.slit (xs := []) (heap_alloc_new _ _) (Nat.le_refl _) (Nat.le_refl _) (by simp) (by simp)) (HPT.out.ext hx1.out) (fun _ _ h => h) (fun k hk => Nat.le_trans hx1.out.le hk) (by rw [HTL.out]; have := HFA.out; have := HLEN.out; simp; omega) (hx1.out.le) ?_
  intro v' w3 ho hg hbk
  rw [List.nil_append] at ho
  have HX3 := Lib.hid (show Ext w2 w3 from (((Ext.refl w2).drew).alloc (.cells #[] 5)).grown hg (fun k hk => by have e : some w2.heap.size = some k := hk; injection e with e; omega))
  have HO3 := Lib.hid ho
  have H3 := Lib.hid (HC.out _ (HX2.out.trans HX3.out)).2
  clear ho hg hbk hto
  refine hK.out _ _ H3.out (fun _ => trivial) ?_
  clear hK K
  (try simp only [Act.put, List.setIfInBounds_toArray, List.set_cons_zero, List.set_cons_succ])
  refine wpF_step (i := 8) (by kernel_rfl) rfl (fun K hK => ?_)
  refine step_append_Rs kByte 32 rfl rfl (.tmp 29) (.tmp 31) 23 5 rfl tBytes w2.heap.size _ _ ((bytesK L (rname ka)).take (rat ka)) bs (w2.heap.size ≤ ·) S rfl rfl HO3.out (HRV.out.ext (HX12.out.trans HX3.out)) (fun _ _ h => h) (fun k hk => Nat.le_trans HX3.out.le hk) (by rw [HTL.out]; have := HFA.out; have := HLEN.out; omega) (HX3.out.le) ?_
  intro v4 w4 ho hg hbk
  have hf3 := HO3.out.from_
  have HX4 := Lib.hid (show Ext w2 w4 from (HX3.out.upd (fun _ => False)).grown hg (fun k hk => .inr (hf3 k hk)) |>.ext (Ext.refl w2) (fun _ h => h.elim))
  obtain ⟨A4, c4, e4, -⟩ := id ho.rs
  obtain ⟨m4, hm4⟩ : ∃ m, m = ((bytesK L (rname ka)).take (rat ka) ++ bs).length := ⟨_, rfl⟩
  rw [← hm4] at e4
  have HM4 := Lib.hid (show m4 = rat ka + bs.length by rw [hm4, List.length_append, HTL.out])
  subst e4
  have HO4 := Lib.hid ho
  have H4 := Lib.hid (HC.out _ (HX2.out.trans HX4.out)).2
  clear ho hg hbk hm4 hf3
  refine hK.out _ _ H4.out (fun _ => trivial) ?_
  clear hK K
  (try simp only [Act.put, List.setIfInBounds_toArray, List.set_cons_zero, List.set_cons_succ])
  refine wpF_take0 (i := 9) (v := ?v22) rfl (by kernel_rfl) (by kernel_rfl) (by kernel_rfl) (fun _ _ _ h => h) (by kernel_rfl) (Or.inl ⟨by rfl, ?hy22⟩) H4.out (fun _ => trivial) ?rest22
  case hy22 => (intro W hSW; (try dsimp only at hSW); go_simp; (try with_reducible rfl))
  (try simp only [Act.put, List.setIfInBounds_toArray, List.set_cons_zero, List.set_cons_succ])

  refine wpF_done (by kernel_rfl) ?_ _
  refine NoPanic.normal ?_
  rw [← wpart_zero, ← HM4.out] at HO4
  have hm4 : m4 ≤ 140737488355328 := by have h1 := HM4.out; have h2 := HFA.out; have h3 := HLEN.out; omega
  obtain ⟨old, hold⟩ : ∃ old, old = bytesK L (rname ka) := ⟨_, rfl⟩
  rw [← hold] at HRO HLEN HFA HO4 ⊢
  have HOLD := Lib.hid hold
  have hol : old.length ≤ 1073741824 := by have := HLEN.out; omega
  clear hold
  go_wp2_with fail
  go_loopw [7, 8] (fun u i wr => ∃ k : Nat, rat ka + bs.length ≤ k ∧ k ≤ max old.length (rat ka + bs.length) ∧ i = .int .i64 k ∧ Hid (Ow kByte 5 wr w2.heap.size (w2.heap.size ≤ ·) u (wpart old (rat ka) bs k)) ∧ Hid (Ext w2 wr)) (fun _ i _ => old.length - (intOf i).toNat)
  case atStart => exact ⟨m4, by have := HM4.out; omega, by have := HM4.out; omega, rfl, HO4, HX4⟩
  case round =>
    obtain ⟨k, hk1, hk2, rfl, HO, HX⟩ := hrel
    by_cases hlt : k < old.length
    · have hrow := (HRO.out.ext HX.out).shape.2.2.2.2
      obtain ⟨ad, rfl, hcell⟩ := hrow.byte hlt
      have HST := Lib.hid (wpart_step old (rat ka) bs k hk1 hlt)
      have HWL := Lib.hid (wpart_len old (rat ka) bs k)
      obtain ⟨y, hy⟩ : ∃ y, y = old[k] := ⟨_, rfl⟩
      rw [← hy] at hcell HST
      obtain ⟨w5, hw5⟩ : ∃ w5, w5 = wr.alloc (.cells #[encB y] 5) := ⟨_, rfl⟩
      have hx5 : Ext wr w5 := by rw [hw5]; exact (Ext.refl _).alloc _
      have HLIT := Lib.hid (show Rs kByte w5 (fun _ => True) (.slice (some ⟨wr.heap.size, 0, none⟩) 1 1) [y] from by rw [hw5]; exact Rs.one_byte wr wr.heap.size _ rfl y)
      have HO5 := Lib.hid (HO.out.ext hx5)
      have HX5 := Lib.hid (HX.out.trans hx5)
      unfold encB at hw5
      have HW5 := Lib.hid hw5
      clear hrow hy hx5 hw5
      have hki : (k : Int) < (old.length : Int) := by omega
      go_wp2_with (at_builtin; rw [← HW5.out]; refine wpList_append_Rs kByte rfl (.tmp 41) (.tmp 46) 23 5 rfl tBytes w2.heap.size _ _ (wpart old (rat ka) bs k) [y] (w2.heap.size ≤ ·) _ rfl rfl HO5.out HLIT.out (fun _ _ h => h) (fun b hb => Nat.le_trans HX5.out.le hb) (by have h1 := HWL.out; have h2 := HLEN.out; simp; omega) HX5.out.le ?_)
      intro v6 w6 ho hg _
      have HO6 := Lib.hid ho
      have HX6 := Lib.hid (HX5.out.grown hg HO5.out.from_)
      rw [← HST.out] at HO6
      clear ho hg
      go_wp2_with fail
      go_roundw
      case rel => exact ⟨k + 1, by omega, by omega, by go_num, HO6, HX6⟩
      case measure => simp [intOf]; omega
    · have HE0 := Lib.hid (wpart_end old (rat ka) bs k (by omega))
      rw [HE0.out] at HO
      have HR6 := Lib.hid HO.out.rs.bound
      obtain ⟨A6, c6, e6, -⟩ := id HR6.out
      obtain ⟨m6, hm6⟩ : ∃ m, m = (ins old (rat ka) bs).length := ⟨_, rfl⟩
      rw [← hm6] at e6
      clear hm6
      subst e6
      obtain ⟨x0, x1, x2, x3, x4⟩ := HC.out wr (HX2.out.trans HX.out)
      have hglr : g < wr.heap.size := Nat.lt_of_lt_of_le hgl2 HX.out.le
      have HE := Lib.hid (show doA L ka bs = putK L (rname ka) (ins old (rat ka) bs) by rw [HOLD.out, HRAT.out, HKE.out]; rfl)
      go_wp2_with fail
      refine (with_calls wr (fun b => (S b ∨ w2.heap.size ≤ b) ∧ b < wr.heap.size) _ _ L (rname ka) (ins old (rat ka) bs) ((HRL.out.ext (HX12.out.trans HX.out)).bound.mono fun b hb => ⟨.inl hb.1, hb.2⟩) (HR6.out.mono fun b hb => ⟨.inr hb.1, hb.2⟩) (fun b hb => hb.2) (by have := HL.out; omega) HNM.out.1).mono ?_
      rintro e w7 hp
      obtain ⟨u, rfl, h1, h2⟩ := FilesP.lower (S := S) (HX12.out.trans HX.out) (fun b hb => hb.1.elim .inl fun h => .inr (Nat.le_trans HX12.out.le h)) hp
      have HP1 := Lib.hid h1
      have HP2 := Lib.hid h2
      clear hp h1 h2
      go_wp2_with fail
      go_ret
      rw [HE.out]
      exact ⟨_, rfl, HP1.out, HP2.out⟩
/-- Files behind an act. -/
theorem RDo_calls (w : World) (S : Nat → Prop) (lv v : Value) (L : KL Nam) (x : ActS) (h : Rs kFile w S lv L) (hv : Rs kByte w S v x.data) (hS : ∀ b, S b → b < w.heap.size) (hL : L.length ≤ 90000) (hfit : fitA L x.k) (hsz : sumK L + x.data.length ≤ 1073741824) (hn : ∀ n ∈ namesA x.k, mayF n = true) :
    Calls Try.prog 76 #[lv, .agg (ractC x.k v)] w (FilesP w S (doA L x.k x.data)) := by
  obtain ⟨k, bs⟩ := x
  have hl : ∀ n ∈ namesA k, n.length ≤ 9223372036854775807 := fun n hm => by have := mayF_len (hn n hm); omega
  cases k with
  | wr n a => exact Do_wr w S lv v L n a bs h hv hS hL hfit hsz (hl n (by simp [namesA]))
  | tr n a => exact Do_tr w S lv v L n a bs h hv hS hL hfit hsz (hl n (by simp [namesA]))
  | mv o t => exact Do_mv w S lv v L o t bs h hv hS hL hfit hsz (hl o (by simp [namesA])) (hl t (by simp [namesA]))
  | dp n => exact Do_dp w S lv v L n bs h hv hS hL hfit hsz (hl n (by simp [namesA]))
end Go.Proofs.Ytjjhmknlhfijjaa
set_option linter.unusedVariables false
set_option linter.unusedSimpArgs false
namespace Go.Proofs.Ytjjhmknlhfijjaa
open Go.RowKit

theorem str_at (n : Nam) (k : Nat) (h : k < n.length) : ((⟨n.toArray⟩ : ByteArray).get! k) = n[k] := by
  show (n.toArray)[k]! = _
  simp [h]
set_option maxRecDepth 100000 in
set_option maxHeartbeats 3200000 in
theorem RName_calls (w : World) (n : Nam) (hn : n.length ≤ 9223372036854775807) :
    Calls Try.prog 65 #[.string ⟨n.toArray⟩] w fun e w' => e = .returned (.bool (mayF n)) ∧ w = w' := by
  have hsz : (⟨n.toArray⟩ : ByteArray).size = n.length := rfl
  go_enter Try.func65, Try.ntmps65
  go_wp2_with fail
  go_loop [7] (fun i => ∃ k : Nat, k ≤ n.length ∧ i = .int .i64 k ∧ Hid ((n.take k).all chrF = true)) (fun i => n.length - (intOf i).toNat)
  case atStart => exact ⟨0, Nat.zero_le _, rfl, Lib.hid rfl⟩
  case round =>
    obtain ⟨k, hk, rfl, HA⟩ := hrel
    by_cases hkn : k < n.length
    · have hki : (k : Int) < (n.length : Int) := by omega
      have HTK := Lib.hid (List.take_succ_eq_append_getElem hkn)
      go_upto_region 5 with fail
      obtain ⟨x, hx⟩ : ∃ x, x = ((⟨n.toArray⟩ : ByteArray)[k]'(by rw [hsz]; exact hkn)).toNat := ⟨_, rfl⟩
      have hxn : x = n[k].toNat := by
        rw [hx]
        rfl
      rw [← hx]
      have hx0 : x < 256 := by rw [hxn]; exact n[k].toNat_lt
      have HCH := Lib.hid (show chrF n[k] = ((decide (97 ≤ x) && decide (x ≤ 122)) || (decide (48 ≤ x) && decide (x ≤ 57)) || decide (x = 46)) from by rw [hxn]; rfl)
      clear hx hxn
      by_cases hgood : chrF n[k] = true
      · have HA2 := Lib.hid (show (n.take (k + 1)).all chrF = true by
          rw [HTK.out, List.all_append, HA.out]
          simp [hgood])
        rw [HCH.out] at hgood
        simp only [Bool.or_eq_true, Bool.and_eq_true, decide_eq_true_eq] at hgood
        by_cases h46 : x = 46
        · have hb : ((x : Int) == 46) = true := beq_iff_eq.2 (by omega)
          clear hgood
          go_wp2_with fail
          go_round
          case rel => exact ⟨k + 1, by omega, by go_num, HA2⟩
          case measure => simp [intOf]; omega
        · have hb : ((x : Int) == 46) = false := beq_eq_false_iff_ne.2 (by omega)
          rcases hgood with (⟨h3, h4⟩ | ⟨h3, h4⟩) | h3
          · have d48 : decide (48 ≤ (x : Int)) = true := decide_eq_true (by omega)
            have d57 : decide ((x : Int) ≤ 57) = false := decide_eq_false (by omega)
            have d97 : decide (97 ≤ (x : Int)) = true := decide_eq_true (by omega)
            have d122 : decide ((x : Int) ≤ 122) = true := decide_eq_true (by omega)
            go_wp2_with fail
            all_goals (try omega)
            go_round
            case rel => exact ⟨k + 1, by omega, by go_num, HA2⟩
            case measure => simp [intOf]; omega
          · have d48 : decide (48 ≤ (x : Int)) = true := decide_eq_true (by omega)
            have d57 : decide ((x : Int) ≤ 57) = true := decide_eq_true (by omega)
            go_wp2_with fail
            all_goals (try omega)
            go_round
            case rel => exact ⟨k + 1, by omega, by go_num, HA2⟩
            case measure => simp [intOf]; omega
          · exact absurd h3 h46
      · have HF := Lib.hid (show mayF n = false by
          unfold mayF
          have : n.all chrF = false := by
            rw [List.all_eq_false]
            exact ⟨n[k], List.getElem_mem hkn, hgood⟩
          rw [this, Bool.and_false])
        rw [HCH.out] at hgood
        simp only [Bool.or_eq_true, Bool.and_eq_true, decide_eq_true_eq, not_or, not_and] at hgood
        obtain ⟨⟨h3, h4⟩, h5⟩ := hgood
        have h6 : (x < 48 ∧ x ≠ 46) ∨ (57 < x ∧ x < 97) ∨ 122 < x := by omega
        have hb : ((x : Int) == 46) = false := beq_eq_false_iff_ne.2 (by omega)
        clear h3 h4 h5
        rcases h6 with ⟨h3, h4⟩ | ⟨h3, h4⟩ | h3
        · have d48 : decide (48 ≤ (x : Int)) = false := decide_eq_false (by omega)
          have d97 : decide (97 ≤ (x : Int)) = false := decide_eq_false (by omega)
          go_wp2_with fail
          all_goals (try omega)
          go_ret
          rw [HF.out]
          exact ⟨rfl, rfl⟩
        · have d48 : decide (48 ≤ (x : Int)) = true := decide_eq_true (by omega)
          have d57 : decide ((x : Int) ≤ 57) = false := decide_eq_false (by omega)
          have d97 : decide (97 ≤ (x : Int)) = false := decide_eq_false (by omega)
          go_wp2_with fail
          all_goals (try omega)
          go_ret
          rw [HF.out]
          exact ⟨rfl, rfl⟩
        · have d48 : decide (48 ≤ (x : Int)) = true := decide_eq_true (by omega)
          have d57 : decide ((x : Int) ≤ 57) = false := decide_eq_false (by omega)
          have d97 : decide (97 ≤ (x : Int)) = true := decide_eq_true (by omega)
          have d122 : decide ((x : Int) ≤ 122) = false := decide_eq_false (by omega)
          go_wp2_with fail
          all_goals (try omega)
          go_ret
          rw [HF.out]
          exact ⟨rfl, rfl⟩
    · obtain rfl : k = n.length := by omega
      rw [List.take_length] at HA
      clear hkn
      have HF := Lib.hid (show mayF n = (decide (1 ≤ n.length) && decide (n.length ≤ 32)) by unfold mayF; rw [HA.out, Bool.and_true])
      by_cases h1 : n.length < 1
      · have HF2 := Lib.hid (show mayF n = false by rw [HF.out, decide_eq_false (by omega)]; rfl)
        have hd1 : decide (0 < n.length) = false := decide_eq_false (by omega)
        have hd2 : ¬ 0 < n.length := by omega
        go_wp2_with fail
        all_goals (try omega)
        go_ret
        rw [HF2.out]
        exact ⟨rfl, rfl⟩
      · have hd1 : decide ((0 : Int) < (n.length : Int)) = true := decide_eq_true (by omega)
        have hd3 : 0 < n.length := by omega
        by_cases h2 : n.length ≤ 32
        · have HF2 := Lib.hid (show mayF n = true by rw [HF.out, decide_eq_true (show 1 ≤ n.length by omega), decide_eq_true h2]; rfl)
          have hd2 : decide ((n.length : Int) < 33) = true := decide_eq_true (by omega)
          go_wp2_with fail
          all_goals (try omega)
          go_ret
          rw [HF2.out]
          exact ⟨rfl, rfl⟩
        · have HF2 := Lib.hid (show mayF n = false by rw [HF.out, decide_eq_false h2, Bool.and_false])
          have hd2 : decide ((n.length : Int) < 33) = false := decide_eq_false (by omega)
          go_wp2_with fail
          all_goals (try omega)
          go_ret
          rw [HF2.out]
          exact ⟨rfl, rfl⟩
end Go.Proofs.Ytjjhmknlhfijjaa
set_option linter.unusedVariables false
set_option linter.unusedSimpArgs false
namespace Go.Proofs.Ytjjhmknlhfijjaa
open Go.RowKit

/-- An act in the reference's form whose parts lie in blocks of E. -/
def kRActE (E : Nat → Prop) : Kd ActS where
  sz := 5
  K := fun w S x cs => kRAct.K w E x cs ∧ ∀ b, E b → S b ∧ b < w.heap.size
  len := fun h => kRAct.len h.1
  one := fun h => kRAct.one h.1
  mono := fun hS h => ⟨h.1, fun b hb => ⟨hS b (h.2 b hb).1, (h.2 b hb).2⟩⟩
  move := fun {w w' S x cs} hm h => ⟨kRAct.move (fun b hb => hm b (h.2 b hb).1) h.1, fun b hb => ⟨(h.2 b hb).1, by
    have h1 := hm b (h.2 b hb).1
    have h2 := (h.2 b hb).2
    rcases Nat.lt_or_ge b w'.heap.size with h3 | h3
    · exact h3
    · rw [Array.getElem?_eq_none h3, Array.getElem?_eq_getElem h2] at h1
      cases h1⟩⟩
  bound := fun h => ⟨h.1, fun b hb => ⟨⟨(h.2 b hb).1, (h.2 b hb).2⟩, (h.2 b hb).2⟩⟩
def RActR (w : World) (D : Nat → Prop) (v : Value) (xs : List ActS) : Prop := Ow (kRActE D) 97 w 0 (fun k => D k ∨ v.ownBlock = some k) v xs
theorem RActR.of {w : World} {base : Nat} {S D D' : Nat → Prop} {v : Value} {xs : List ActS} (h : Ow (kRActE D) 97 w base S v xs) (hD : ∀ k, D k → D' k) (hlt : ∀ k, D' k → k < w.heap.size) (hn : ∀ k, v.ownBlock = some k → ¬ D' k) : RActR w D' v xs := by
  obtain ⟨h0, hz, cells, ho, hx⟩ := h
  refine ⟨fun k hk => .inr hk, hz, cells, ownsRow_lower ho (Nat.zero_le _), fun j x hj => ?_⟩
  have h1 := hx j x hj
  exact ⟨kRAct.mono hD h1.1, fun b hb => ⟨⟨.inl hb, fun e => hn b e.symm hb⟩, hlt b hb⟩⟩
theorem RActR.nil (w : World) (D : Nat → Prop) : RActR w D (.slice none 0 0) [] := Ow.nil _ _ _ _ _
theorem RActR.upd {w w' : World} {S D : Nat → Prop} {v : Value} {xs : List ActS} (h : RActR w D v xs) (hu : Upd S w w') (hD : ∀ k, D k → ¬ S k) (hv : ∀ k, v.ownBlock = some k → ¬ S k) : RActR w' D v xs :=
  Ow.upd h hu fun k hk => hk.elim (hD k) (hv k)
/-- The reference's numbers: armed, keep, tear (what stays behind a fall, the disk's is 0). -/
structure RfN where
  keep : Int
  tear : Int
def rfC (s : DkS) (z : RfN) (lv av : Value) : Array Value := #[.int .i64 s.room, lv, av, .bool s.off, .int .i64 s.left, .int .i64 z.keep, .int .i64 z.tear]
structure RfY (w : World) (x : Nat) (M D : Nat → Prop) (s : DkS) (z : RfN) (lv av : Value) : Prop where
  blk : w.heap[x]? = some (.cells (rfC s z lv av) 91 (0, 0))
  files : Rs kFile w D lv s.last
  acts : RActR w D av s.acts
  inM : ∀ k, (k = x ∨ av.ownBlock = some k) → M k
  apart : ∀ k, D k → ¬ M k
  ne : av.ownBlock ≠ some x
  ltM : ∀ k, M k → k < w.heap.size
  ltD : ∀ k, D k → k < w.heap.size
  ok : DkOk s
  num : I64 z.keep ∧ I64 z.tear
  same : s.left ≠ 0 → z.keep = s.keep ∧ z.tear = s.tear
  most : s.room ≤ 16777216
  plain : ∀ a ∈ s.acts, (∀ n i, a.k ≠ .wr n i) → a.data = []
def RfX (w : World) (x : Nat) (M D : Nat → Prop) (s : DkS) : Prop := ∃ z lv av, RfY w x M D s z lv av
section
variable {w w' : World} {x : Nat} {M D : Nat → Prop} {s : DkS} {z : RfN} {lv av : Value}
theorem RfY.upd (h : RfY w x M D s z lv av) {S : Nat → Prop} (hu : Upd S w w') (hM : ∀ k, M k → ¬ S k) (hD : ∀ k, D k → ¬ S k) : RfY w' x M D s z lv av where
  blk := blk_upd h.blk hu (hM x (h.inM x (.inl rfl)))
  files := h.files.upd hu hD
  acts := h.acts.upd hu hD fun k e => hM k (h.inM k (.inr e))
  inM := h.inM
  apart := h.apart
  ne := h.ne
  ltM := fun k hk => Nat.lt_of_lt_of_le (h.ltM k hk) hu.le
  ltD := fun k hk => Nat.lt_of_lt_of_le (h.ltD k hk) hu.le
  ok := h.ok
  num := h.num
  same := h.same
  most := h.most
  plain := h.plain
theorem RfY.ext (h : RfY w x M D s z lv av) (he : Ext w w') : RfY w' x M D s z lv av := h.upd (he.upd fun _ => False) (fun _ _ h => h) (fun _ _ h => h)
end
set_option maxHeartbeats 800000 in
theorem hit_calls (w : World) (x : Nat) (M D : Nat → Prop) (s : DkS) (z : RfN) (lv av : Value) (h : RfY w x M D s z lv av) :
    Calls Try.prog 66 #[ptr x] w fun e w' => e = .returned (.bool (hitB s)) ∧ RfY w' x M D (hitS s) z lv av ∧ Upd (fun k => k = x) w w' := by
  have HH := Lib.hid h
  have hb := h.blk
  have hc1 : w.cell? ⟨x, 4, none⟩ = some (.int .i64 s.left) := cell_blk hb 4
  have hfz : w.frozen? ⟨x, 4, none⟩ = false := frozen_blk hb 4
  have hlt := blk_lt hb
  have hle := h.ok.left
  have HB := Lib.hid hb
  clear hb h
  unfold ptr
  by_cases h0 : s.left = 0
  · have HF := Lib.hid (show hitB s = false ∧ hitS s = s by constructor <;> simp [hitB, hitS, h0])
    rw [h0] at hc1
    go_enter Try.func66, Try.ntmps66
    go_wp2_with fail
    go_ret
    rw [HF.out.1, HF.out.2]
    exact ⟨rfl, HH.out, Upd.refl _ _⟩
  · have he0 : (s.left == 0) = false := beq_eq_false_iff_ne.2 h0
    have HF := Lib.hid (show hitB s = (s.left - 1 == 0) ∧ hitS s = { s with left := s.left - 1 } by
      refine ⟨?_, by unfold hitS; rw [if_neg h0]⟩
      unfold hitB
      rw [Bool.eq_iff_iff]
      simp only [decide_eq_true_eq, beq_iff_eq]
      omega)
    have HW := Lib.hid (show RfY (w.setCell ⟨x, 4, none⟩ (.int .i64 (s.left - 1))) x M D (hitS s) z lv av from by
      have hu : Upd (fun k => k = x) w (w.setCell ⟨x, 4, none⟩ (.int .i64 (s.left - 1))) := (Upd.refl (fun k => k = x) w).set (g := x) (.inl rfl) _
      have hxM := HH.out.inM x (.inl rfl)
      have hbk := heap_setCell_same w x 4 _ _ (.int .i64 (s.left - 1)) HB.out
      rw [HF.out.2]
      exact ⟨hbk, HH.out.files.upd hu (fun k hk e => HH.out.apart k hk (e ▸ hxM)), HH.out.acts.upd hu (fun k hk e => HH.out.apart k hk (e ▸ hxM)) (fun k hk e => HH.out.ne (by rw [hk, e])), HH.out.inM, HH.out.apart, HH.out.ne, fun k hk => Nat.lt_of_lt_of_le (HH.out.ltM k hk) hu.le, fun k hk => Nat.lt_of_lt_of_le (HH.out.ltD k hk) hu.le, HF.out.2 ▸ hit_ok HH.out.ok, HH.out.num, fun _ => HH.out.same h0, HH.out.most, HH.out.plain⟩)
    clear h0
    have hc2 : (w.setCell ⟨x, 4, none⟩ (.int .i64 (s.left - 1))).cell? ⟨x, 4, none⟩ = some (.int .i64 (s.left - 1)) := cell_blk (heap_setCell_same w x 4 _ _ (.int .i64 (s.left - 1)) HB.out) 4
    go_enter Try.func66, Try.ntmps66
    go_wp2_with fail
    go_ret
    rw [HF.out.1]
    exact ⟨rfl, HW.out, (Upd.refl (fun k => k = x) w).set (g := x) (.inl rfl) _⟩
end Go.Proofs.Ytjjhmknlhfijjaa
set_option linter.unusedVariables false
set_option linter.unusedSimpArgs false
namespace Go.Proofs.Ytjjhmknlhfijjaa
open Go.RowKit

theorem Row.ractE {w : World} {D S : Nat → Prop} {A : Option Addr} {xs : List ActS} (h : Row (kRActE D) w S A xs) {j : Nat} (hj : j < xs.length) : ∃ ad Ab cb, A = some ad ∧ Rs kByte w D (.slice Ab xs[j].data.length cb) xs[j].data ∧
    w.cell? (ad.add (j * 5)) = some (.int .i64 (rkind xs[j].k)) ∧ w.cell? ⟨(ad.add (j * 5)).block, (ad.add (j * 5)).off + 1, none⟩ = some (.string ⟨(rname xs[j].k).toArray⟩) ∧ w.cell? ⟨(ad.add (j * 5)).block, (ad.add (j * 5)).off + 2, none⟩ = some (.string ⟨(rto xs[j].k).toArray⟩) ∧ w.cell? ⟨(ad.add (j * 5)).block, (ad.add (j * 5)).off + 3, none⟩ = some (.int .i64 (rat xs[j].k : Int)) ∧
    w.cell? ⟨(ad.add (j * 5)).block, (ad.add (j * 5)).off + 4, none⟩ = some (.slice Ab xs[j].data.length cb) := by
  obtain ⟨ad, cs, rfl, _, _, ⟨hK, _⟩, hc⟩ := h.get hj
  obtain ⟨v, rfl, h1⟩ := hK
  obtain ⟨Ab, cb, e, _⟩ := id h1
  subst e
  have hg : ∀ i u, (ractC xs[j].k (.slice Ab xs[j].data.length cb)).toList[i]? = some u → 0 < i → w.cell? ⟨(ad.add (j * 5)).block, (ad.add (j * 5)).off + i, none⟩ = some u := fun i u hu hi => by
    have h := hc i u hu
    rw [← add_of_add] at h
    rw [show (ad.add (j * (kRActE D).sz)).add i = ⟨(ad.add (j * 5)).block, (ad.add (j * 5)).off + i, none⟩ from by
      show (ad.add (j * 5)).add i = _
      unfold Addr.add
      rw [if_neg (show ¬ i = 0 by omega)]] at h
    exact h
  exact ⟨ad, Ab, cb, rfl, h1, hc 0 _ rfl, hg 1 _ rfl (by decide), hg 2 _ rfl (by decide), hg 3 _ rfl (by decide), hg 4 _ rfl (by decide)⟩
theorem runA_take (L : KL Nam) (l : List ActS) (k : Nat) (h : k < l.length) : runA L (l.take (k + 1)) = doA (runA L (l.take k)) l[k].k l[k].data := by
  rw [List.take_succ_eq_append_getElem h, runA_snoc]
theorem fits_at {L : KL Nam} {l : List ActS} (h : fitsA L l) {k : Nat} (hk : k < l.length) : fit1 (runA L (l.take k)) l[k] := by
  have h1 := fits_take l (k + 1) L h
  rw [List.take_succ_eq_append_getElem hk, fits_snoc] at h1
  exact h1.2
/-- The files that are seen: new ones, their bytes elder or new. -/
def SeenP (w : World) (D : Nat → Prop) (L : KL Nam) (e : Ending) (w' : World) : Prop :=
  ∃ u, e = .returned u ∧ Rs kFile w' (fun b => (D b ∨ w.heap.size ≤ b) ∧ b < w'.heap.size) u L ∧ Ext w w'
set_option maxRecDepth 100000 in
set_option maxHeartbeats 1600000 in
theorem Files_calls (w : World) (x : Nat) (M D : Nat → Prop) (s : DkS) (z : RfN) (lv av : Value) (h : RfY w x M D s z lv av) :
    Calls Try.prog 63 #[ptr x] w (SeenP w D s.seen) := by
  have HH := Lib.hid h
  have hb := h.blk
  obtain ⟨A, c, e, hl1, hl2, hl3, -⟩ := h.acts.rs
  subst e
  have hc1 : w.cell? ⟨x, 1, none⟩ = some lv := cell_blk hb 1
  have hc2 : w.cell? ⟨x, 2, none⟩ = some (.slice A s.acts.length c) := cell_blk hb 2
  have hlt := blk_lt hb
  obtain ⟨Al, cl, e, -⟩ := id h.files
  subst e
  clear hb h
  unfold ptr
  go_enter Try.func63, Try.ntmps63
  go_wp2_with fail
  go_loopw [3, 15] (fun u i wr => ∃ k : Nat, k ≤ s.acts.length ∧ i = .int .i64 k ∧ Hid (Rs kFile wr (fun b => (D b ∨ w.heap.size ≤ b) ∧ b < wr.heap.size) u (runA s.last (s.acts.take k))) ∧ Hid (Ext w wr)) (fun _ i _ => s.acts.length - (intOf i).toNat)
  case atStart => exact ⟨0, Nat.zero_le _, rfl, Lib.hid (HH.out.files.bound.mono fun b hb => ⟨.inl hb.1, hb.2⟩), Lib.hid (Ext.refl _)⟩
  case round =>
    obtain ⟨k, hk, rfl, HR, HX⟩ := hrel
    by_cases hlt2 : k < s.acts.length
    · obtain ⟨ad, Ab, cb, rfl, hd, x0, x1, x2, x3, x4⟩ := (HH.out.ext HX.out).acts.rs.shape.2.2.2.2.ractE (j := k) hlt2
      have HST := Lib.hid (runA_take s.last s.acts k hlt2)
      have HF := Lib.hid (fits_at HH.out.ok.fits hlt2)
      have HLEN := Lib.hid (show (runA s.last (s.acts.take k)).length ≤ 4096 from runA_len _ HH.out.ok.files (fits_take s.acts k _ HH.out.ok.fits))
      have HSUM := Lib.hid (show sumK (runA s.last (s.acts.take k)) + s.acts[k].data.length ≤ 1073741824 by
        have h1 := runA_sum _ HH.out.ok.rise (fits_take s.acts k _ HH.out.ok.fits)
        have h2 := costs_snoc s.acts k hlt2
        have h3 := costs_take s.acts (k + 1)
        have h4 := HH.out.ok.room
        have h5 := HH.out.ok.most
        unfold DkS.used at h4
        omega)
      have HD := Lib.hid hd
      obtain ⟨q, hq⟩ : ∃ q, q = s.acts[k] := ⟨_, rfl⟩
      rw [← hq] at HD HST HF HSUM x0 x1 x2 x3 x4
      clear hd hq
      go_upto_region 5 with fail
      obtain ⟨w2, hw2⟩ : ∃ w2, w2 = wr.alloc (.cells (ractC q.k (.slice Ab q.data.length cb)) 97) := ⟨_, rfl⟩
      obtain ⟨g, hg⟩ : ∃ g, g = wr.heap.size := ⟨_, rfl⟩
      have hx2 : Ext wr w2 := by rw [hw2]; exact (Ext.refl _).alloc _
      have HB2 := Lib.hid (show w2.heap[g]? = some (.cells (ractC q.k (.slice Ab q.data.length cb)) 97 (0, 0)) by rw [hw2]; exact heap_new wr g hg.symm _)
      have HR2 := Lib.hid (HR.out.ext hx2)
      have HD2 := Lib.hid (HD.out.ext hx2)
      have HX2 := Lib.hid hx2
      have HXw := Lib.hid (HX.out.trans hx2)
      unfold ractC at hw2
      rw [← hw2, ← hg]
      clear hw2 hg hx2 x0 x1 x2 x3 x4 hc1 hc2
      have y0 : w2.cell? ⟨g, 0, none⟩ = some (.int .i64 (rkind q.k)) := cell_blk HB2.out 0
      have y1 : w2.cell? ⟨g, 1, none⟩ = some (.string ⟨(rname q.k).toArray⟩) := cell_blk HB2.out 1
      have y2 : w2.cell? ⟨g, 2, none⟩ = some (.string ⟨(rto q.k).toArray⟩) := cell_blk HB2.out 2
      have y3 : w2.cell? ⟨g, 3, none⟩ = some (.int .i64 (rat q.k : Int)) := cell_blk HB2.out 3
      have y4 : w2.cell? ⟨g, 4, none⟩ = some (.slice Ab q.data.length cb) := cell_blk HB2.out 4
      have hgl := blk_lt HB2.out
      go_wp2_with fail
      refine (RDo_calls w2 (fun b => (D b ∨ w.heap.size ≤ b) ∧ b < w2.heap.size) _ _ (runA s.last (s.acts.take k)) q (HR2.out.mono fun b hb => ⟨hb.1, Nat.lt_of_lt_of_le hb.2 HX2.out.le⟩) (HD2.out.bound.mono fun b hb => ⟨.inl hb.1, hb.2⟩) (fun b hb => hb.2) (by have := HLEN.out; omega) HF.out.1 HSUM.out HF.out.2.1).mono ?_
      rintro e w3 ⟨u, rfl, ho, hx3⟩
      rw [← HST.out] at ho
      have HR3 := Lib.hid (show Rs kFile w3 (fun b => (D b ∨ w.heap.size ≤ b) ∧ b < w3.heap.size) u (runA s.last (s.acts.take (k + 1))) from ho.rs.bound.mono fun b hb => ⟨hb.1.elim (fun h => h.1) fun h => .inr (Nat.le_trans HXw.out.le h), hb.2⟩)
      have HX3 := Lib.hid (HXw.out.trans hx3)
      clear ho hx3
      go_wp2_with fail
      go_roundw
      case rel => exact ⟨k + 1, by omega, by go_num, HR3, HX3⟩
      case measure => simp [intOf]; omega
    · obtain rfl : k = s.acts.length := by omega
      rw [List.take_length] at HR
      clear hlt2
      go_wp2_with fail
      go_ret
      exact ⟨_, rfl, HR.out, HX.out⟩
end Go.Proofs.Ytjjhmknlhfijjaa
set_option linter.unusedVariables false
set_option linter.unusedSimpArgs false
namespace Go.Proofs.Ytjjhmknlhfijjaa
open Go.RowKit

/-- What a step of the reference's disk leaves. -/
def RfP (w : World) (x : Nat) (M D : Nat → Prop) (w' : World) (s' : DkS) : Prop := ∃ M' D', RfX w' x M' D' s' ∧ DkT w w' M D M' D'
section
variable {w w' : World} {x : Nat} {M D : Nat → Prop} {s : DkS} {z : RfN} {lv av : Value}
theorem RfY.toX (h : RfY w x M D s z lv av) : RfX w x M D s := ⟨z, lv, av, h⟩
theorem RfX.p (h : RfX w x M D s) : RfP w x M D w s := ⟨M, D, h, DkT.refl _ _ _⟩
theorem RfX.ext (h : RfX w x M D s) (he : Ext w w') : RfX w' x M D s := by
  obtain ⟨z, lv, av, h⟩ := h
  exact ⟨z, lv, av, h.ext he⟩
theorem RfX.ok (h : RfX w x M D s) : DkOk s := by
  obtain ⟨z, lv, av, h⟩ := h
  exact h.ok
theorem RfX.lt (h : RfX w x M D s) : x < w.heap.size := by
  obtain ⟨z, lv, av, h⟩ := h
  exact blk_lt h.blk
theorem RfX.upd (h : RfX w x M D s) {S : Nat → Prop} (hu : Upd S w w') (hM : ∀ k, M k → ¬ S k) (hD : ∀ k, D k → ¬ S k) : RfX w' x M D s := by
  obtain ⟨z, lv, av, h⟩ := h
  exact ⟨z, lv, av, h.upd hu hM hD⟩
theorem RfX.extp (h : RfX w x M D s) (he : Ext w w') : RfP w x M D w' s := ⟨M, D, h.ext he, he.dkT M D⟩
/-- The block has turned, the rows are the same. -/
theorem RfY.turn (h : RfY w x M D s z lv av) (hu : Upd (fun k => k = x) w w') {s' : DkS} {z' : RfN} (hl : s'.last = s.last) (ha : s'.acts = s.acts) (hr : s'.room = s.room) (hb : w'.heap[x]? = some (.cells (rfC s' z' lv av) 91 (0, 0))) (hok : DkOk s') (hz : I64 z'.keep ∧ I64 z'.tear) (hs : s'.left ≠ 0 → z'.keep = s'.keep ∧ z'.tear = s'.tear) : RfY w' x M D s' z' lv av where
  blk := hb
  files := by
    rw [hl]
    exact h.files.upd hu (fun k hk e => h.apart k hk (h.inM k (.inl e)))
  acts := by
    rw [ha]
    exact h.acts.upd hu (fun k hk e => h.apart k hk (h.inM k (.inl e))) fun k e2 e => h.ne (e ▸ e2)
  inM := h.inM
  apart := h.apart
  ne := h.ne
  ltM := fun k hk => Nat.lt_of_lt_of_le (h.ltM k hk) hu.le
  ltD := fun k hk => Nat.lt_of_lt_of_le (h.ltD k hk) hu.le
  ok := hok
  num := hz
  same := hs
  most := by rw [hr]; exact h.most
  plain := by rw [ha]; exact h.plain
end
theorem RfP.trans {a b : World} {p : Nat} {M D M' D' : Nat → Prop} {w' : World} {s' : DkS} (h : DkT a b M D M' D') (k : RfP b p M' D' w' s') : RfP a p M D w' s' := by
  obtain ⟨M2, D2, h1, h2⟩ := k
  exact ⟨M2, D2, h1, h.trans h2⟩
theorem Ext.rfp {a b : World} (h : Ext a b) {p : Nat} {M D : Nat → Prop} {w' : World} {s' : DkS} (k : RfP b p M D w' s') : RfP a p M D w' s' := RfP.trans (h.dkT M D) k
set_option maxHeartbeats 1600000 in
theorem why_calls (w : World) (x : Nat) (M D : Nat → Prop) (s : DkS) (n : Nam) (h : RfX w x M D s) (hn : n.length ≤ 9223372036854775807) :
    Calls Try.prog 61 #[ptr x, .string ⟨n.toArray⟩] w fun e w' => e = .returned (.int .i64 (findF s n)) ∧ Ext w w' := by
  obtain ⟨z, lv, av, h⟩ := h
  have HH := Lib.hid h
  have HN := Lib.hid hn
  have hb := h.blk
  have hc3 : w.cell? ⟨x, 3, none⟩ = some (.bool s.off) := cell_blk hb 3
  have hlt := blk_lt hb
  clear hb h hn
  unfold ptr
  rcases ho : s.off with _ | _
  · rw [ho] at hc3
    rcases hm : mayF n with _ | _
    · have HF := Lib.hid (show findF s n = 20 by unfold findF; rw [ho, hm]; rfl)
      have HM := Lib.hid hm
      clear ho hm
      go_enter Try.func61, Try.ntmps61
      go_wp2_with fail
      refine (RName_calls w n HN.out).mono ?_
      rw [HM.out]
      rintro e w' ⟨rfl, rfl⟩
      go_wp2_with fail
      go_ret
      rw [HF.out]
      exact ⟨rfl, Ext.refl _⟩
    · have HF := Lib.hid (show findF s n = if (getK s.seen n).isSome = true then 0 else 21 by unfold findF; rw [ho, hm]; rfl)
      have HM := Lib.hid hm
      clear ho hm
      go_enter Try.func61, Try.ntmps61
      go_wp2_with fail
      refine (RName_calls w n HN.out).mono ?_
      rw [HM.out]
      rintro e w' ⟨rfl, rfl⟩
      go_wp2_with fail
      refine (Files_calls w x M D s z lv av HH.out).mono ?_
      rintro e w1 ⟨u, rfl, hu, hx1⟩
      have HX1 := Lib.hid hx1
      have HU := Lib.hid hu
      clear hu hx1
      go_wp2_with fail
      refine (get_calls w1 _ u s.seen n HU.out).mono ?_
      rintro e w2 ⟨A, c, rfl, -, hx2⟩
      have HX2 := Lib.hid (HX1.out.trans hx2)
      clear hx2
      rcases hg : (getK s.seen n).isSome with _ | _
      · have HG := Lib.hid hg
        clear hg
        go_wp2_with fail
        go_ret
        rw [HF.out, HG.out]
        exact ⟨rfl, HX2.out⟩
      · have HG := Lib.hid hg
        clear hg
        go_wp2_with fail
        go_ret
        rw [HF.out, HG.out]
        exact ⟨rfl, HX2.out⟩
  · rw [ho] at hc3
    have HF := Lib.hid (show findF s n = 22 by unfold findF; rw [ho]; rfl)
    clear ho
    go_enter Try.func61, Try.ntmps61
    go_wp2_with fail
    go_ret
    rw [HF.out]
    exact ⟨rfl, Ext.refl _⟩
end Go.Proofs.Ytjjhmknlhfijjaa
set_option linter.unusedVariables false
set_option linter.unusedSimpArgs false
namespace Go.Proofs.Ytjjhmknlhfijjaa
open Go.RowKit

structure RFal (w0 w : World) (x : Nat) (D : Nat → Prop) (s : DkS) (z : RfN) (av : Value) (done : List ActS) (u : Value) : Prop where
  blk : w.heap[x]? = some (.cells (rfC s z u av) 91 (0, 0))
  files : Rs kFile w (fun k => (D k ∨ w0.heap.size ≤ k) ∧ k < w.heap.size) u (runA s.last done)
  acts : RActR w D av s.acts
  upd : Upd (fun k => k = x) w0 w
section
variable {w0 w w' : World} {x : Nat} {M D : Nat → Prop} {s : DkS} {z : RfN} {lv av u : Value} {done : List ActS}
theorem RfY.fal (h : RfY w x M D s z lv av) : RFal w w x D s z av [] lv :=
  ⟨h.blk, h.files.bound.mono fun k hk => ⟨.inl hk.1, hk.2⟩, h.acts, Upd.refl _ _⟩
theorem RFal.ext (h : RFal w0 w x D s z av done u) (he : Ext w w') : RFal w0 w' x D s z av done u :=
  ⟨blk_ext h.blk he, (h.files.ext he).mono fun k hk => ⟨hk.1, Nat.lt_of_lt_of_le hk.2 he.le⟩, h.acts.upd (he.upd fun _ => False) (fun _ _ h => h) (fun _ _ h => h), h.upd.trans (he.upd _)⟩
/-- A block that nobody holds has turned. -/
theorem RFal.fresh {w2 : World} {g : Nat} (h0 : RfY w0 x M D s z lv av) (h : RFal w0 w x D s z av done u) (hx : Ext w w2) (hg : g = w.heap.size) (v : Value) : RFal w0 (w2.setCell ⟨g, 4, none⟩ v) x D s z av done u := by
  have hu : Upd (fun k => k = g) w2 (w2.setCell ⟨g, 4, none⟩ v) := (Upd.refl (fun k => k = g) w2).set (g := g) (.inl rfl) v
  have hxl := h0.ltM x (h0.inM x (.inl rfl))
  have hle0 := h.upd.le
  have hle1 := hx.le
  have hle2 := hu.le
  refine ⟨blk_upd (blk_ext h.blk hx) hu (by omega), ((h.files.ext hx).upd hu fun k hk e => ?_).mono fun k hk => ⟨hk.1, by have := hk.2; omega⟩, (h.acts.upd (hx.upd fun _ => False) (fun _ _ h => h) (fun _ _ h => h)).upd hu (fun k hk e => ?_) (fun k hk e => ?_), ?_⟩
  · have := hk.2; omega
  · have := h0.ltD k hk; omega
  · have := h0.ltM k (h0.inM k (.inr hk)); omega
  · exact (h.upd.trans (hx.upd _)).set (g := g) (.inr (by omega)) v
/-- The next act. -/
theorem RFal.do_ (h0 : RfY w0 x M D s z lv av) (h : RFal w0 w x D s z av done u) {q : ActS} {v : Value} (hfit : fitsA s.last (done ++ [q])) (hcost : costs (done ++ [q]) ≤ costs s.acts) (hv : Rs kByte w D v q.data) :
    Calls Try.prog 76 #[u, .agg (ractC q.k v)] w fun e w' => ∃ u', e = .returned u' ∧ Hid (Rs kFile w' (fun k => (D k ∨ w0.heap.size ≤ k) ∧ k < w'.heap.size) u' (runA s.last (done ++ [q]))) ∧ Hid (Ext w w') := by
  have hfit' := (fits_snoc _ _ _).1 hfit
  have hroom := h0.ok.room
  have hmost := h0.ok.most
  have hsum := runA_sum done h0.ok.rise hfit'.1
  rw [costs_append] at hcost
  have hx : costs [q] = q.data.length := by simp [costs]
  unfold DkS.used at hroom
  refine (RDo_calls w (fun k => (D k ∨ w0.heap.size ≤ k) ∧ k < w.heap.size) u v (runA s.last done) q h.files (hv.bound.mono fun k hk => ⟨.inl hk.1, hk.2⟩) (fun k hk => hk.2) (by have := runA_len done h0.ok.files hfit'.1; omega) hfit'.2.1 (by omega) hfit'.2.2.1).mono ?_
  rintro e w2 ⟨u', rfl, ho, hx2⟩
  rw [← runA_snoc] at ho
  refine ⟨u', rfl, Lib.hid (ho.rs.bound.mono fun k hk => ⟨?_, hk.2⟩), Lib.hid hx2⟩
  have := h.upd.le
  rcases hk.1 with h1 | h1
  · exact h1.1
  · exact .inr (by omega)
theorem RFal.set_ {done' : List ActS} {u' : Value} (h0 : RfY w0 x M D s z lv av) (h : RFal w0 w x D s z av done u) (hx : Ext w w') (hf : Rs kFile w' (fun k => (D k ∨ w0.heap.size ≤ k) ∧ k < w'.heap.size) u' (runA s.last done')) : RFal w0 (w'.setCell ⟨x, 1, none⟩ u') x D s z av done' u' := by
  have hu : Upd (fun k => k = x) w' (w'.setCell ⟨x, 1, none⟩ u') := (Upd.refl (fun k => k = x) w').set (g := x) (.inl rfl) u'
  have hxM := h0.inM x (.inl rfl)
  have hxl := h0.ltM x hxM
  have hle := hu.le
  refine ⟨heap_setCell_same w' x 1 _ _ u' (blk_ext h.blk hx), (hf.upd hu fun k hk e => ?_).mono fun k hk => ⟨hk.1, by have := hk.2; omega⟩, (h.acts.upd (hx.upd fun _ => False) (fun _ _ h => h) (fun _ _ h => h)).upd hu (fun k hk e => ?_) (fun k hk e => ?_), (h.upd.trans (hx.upd _)).trans hu⟩
  · rcases hk.1 with h1 | h1
    · exact h0.apart k h1 (e ▸ hxM)
    · omega
  · exact h0.apart k hk (e ▸ hxM)
  · exact h0.ne (by rw [hk, e])
/-- What stands behind a fall. -/
theorem RFal.end_ {w2 : World} {keep tear : Int} (h : RfY w0 x M D s z lv av) (hF : RFal w0 w x D s z av (keptA s.acts (clampN keep s.acts.length) tear) u) (hx : Ext w w2) :
    RfP w0 x M D (((w2.setCell ⟨x, 2, none⟩ (.slice none 0 0)).setCell ⟨x, 3, none⟩ (.bool true)).setCell ⟨x, 4, none⟩ (.int .i64 0)) (fallS s keep tear) := by
  have b0 := blk_ext hF.blk hx
  have b1' := heap_setCell_same w2 x 2 _ _ (.slice none 0 0) b0
  have b2' := heap_setCell_same _ x 3 _ _ (.bool true) b1'
  have b3' := heap_setCell_same _ x 4 _ _ (.int .i64 0) b2'
  have hu : Upd (fun k => k = x) w2 (((w2.setCell ⟨x, 2, none⟩ (.slice none 0 0)).setCell ⟨x, 3, none⟩ (.bool true)).setCell ⟨x, 4, none⟩ (.int .i64 0)) :=
    (((Upd.refl (fun k => k = x) w2).set (g := x) (.inl rfl) _).set (g := x) (.inl rfl) _).set (g := x) (.inl rfl) _
  generalize (((w2.setCell ⟨x, 2, none⟩ (.slice none 0 0)).setCell ⟨x, 3, none⟩ (.bool true)).setCell ⟨x, 4, none⟩ (.int .i64 0)) = W at *
  clear b1' b2'
  have hxM : M x := h.inM x (.inl rfl)
  have hxl := h.ltM x hxM
  have hle1 := hF.upd.le
  have hle2 := hx.le
  have hle3 := hu.le
  refine ⟨M, fun k => (D k ∨ w0.heap.size ≤ k) ∧ k < w.heap.size, ⟨z, u, .slice none 0 0, ?_⟩, ?_⟩
  · constructor
    case blk => exact b3'
    case files =>
      refine (hF.files.ext hx).upd hu fun k hk e => ?_
      rcases hk.1 with h1 | h1
      · exact h.apart k h1 (e ▸ hxM)
      · omega
    case acts => exact RActR.nil _ _
    case inM =>
      rintro k (rfl | hk)
      · exact hxM
      · cases hk
    case apart =>
      rintro k ⟨h1, h2⟩ h3
      rcases h1 with h1 | h1
      · exact h.apart k h1 h3
      · have := h.ltM k h3; omega
    case ne => simp [Value.ownBlock]
    case ltM => exact fun k hk => by have := h.ltM k hk; omega
    case ltD => exact fun k hk => by have := hk.2; omega
    case ok => exact fall_ok h.ok _ _
    case num => exact h.num
    case same => exact fun e => absurd rfl e
    case most => exact h.most
    case plain => exact fun a ha => by cases ha
  · refine ⟨((hF.upd.mono ?_).trans (hx.upd M)).trans (hu.mono ?_), fun k hk => .inl hk, fun k hk => hk.1⟩
    · rintro k rfl; exact hxM
    · rintro k rfl; exact hxM
end
end Go.Proofs.Ytjjhmknlhfijjaa
