/-
  Texts of this claim, put together: SesRImgP, SesRImg, SesTells.
-/
import Derived.Test.YtkedmpppfejofaaZ11
import Derived.Test.YtkedmpppfejofaaZ2
import Derived.Test.YtkedmpppfejofaaZ10
set_option linter.unusedVariables false
set_option linter.unusedSimpArgs false
namespace Go.Proofs.Ytkedmpppfejofaa
open Go.RowKit

set_option maxRecDepth 1000000 in
set_option maxHeartbeats 4000000 in
theorem simg5 {K : Act → World → Prop} {Q : Exit → Act → World → Prop} {w : World} {c0 c1 c2 c3 c4 c6 c7 c8 c9 c10 c11 c12 c13 c14 c15 c16 c17 c18 c19 c20 c21 c22 c23 c24 c25 c26 c27 c28 c29 c30 c31 c32 c33 c34 c35 c36 c37 c38 c39 c40 c41 c42 c43 c44 : Value} (g : Nat) (s : SeatS) (hI : SeatI s) (hg : Hid (w.heap[g]? = some (.cells (seatC s) 47 (0, 0))))
    (hK : ∀ (u23 u24 u25 u26 u27 u28 u29 u30 u31 u32 u33 : Value) (wx : World), Hid (Ow kInt 3 wx w.heap.size (w.heap.size ≤ ·) u33 s.nums ∧ Ext w wx) → K ⟨#[c0, c1, c2, c3, c4, .pointer (some ⟨g, 0, none⟩), c6, c7, c8, c9, c10, c11, c12, c13, c14, c15, c16, c17, c18, c19, c20, c21, c22, u23, u24, u25, u26, u27, u28, u29, u30, u31, u32, u33, .int .i64 (s.nums.length : Int), .int .i64 0, c36, c37, c38, c39, c40, c41, c42, c43, c44], []⟩ wx) :
    Code.wp Try.prog ((Try.f43.body.bind (partR 5)).getD .skip) (Exit.then K Q) ⟨#[c0, c1, c2, c3, c4, .pointer (some ⟨g, 0, none⟩), c6, c7, c8, c9, c10, c11, c12, c13, c14, c15, c16, c17, c18, c19, c20, c21, c22, c23, c24, c25, c26, c27, c28, c29, c30, c31, c32, c33, c34, c35, c36, c37, c38, c39, c40, c41, c42, c43, c44], []⟩ w := by
  conv => arg 2; whnf
  have hK2 := Lib.hid @hK
  obtain ⟨w0, hw0⟩ : ∃ W, W = w.drew := ⟨_, rfl⟩
  have x0 := Lib.hid (show Ext w w0 by rw [hw0]; exact (Ext.refl w).drew)
  have b0 := Lib.hid (blk_ext hg.out x0.out)
  have HS0 := Lib.hid (show ∀ W : World, W.heap[g]? = some (.cells (seatC s) 47 (0, 0)) → W.cell? ⟨g, 0, none⟩ = some (.int .i64 s.session) ∧ W.cell? ⟨g, 1, none⟩ = some (.int .i64 s.seq) ∧ W.cell? ⟨g, 2, none⟩ = some (.int .i64 s.at_) ∧ W.cell? ⟨g, 3, none⟩ = some (.int .i64 s.r.err) ∧ W.cell? ⟨g, 4, none⟩ = some (.int .i64 s.r.session) ∧ W.cell? ⟨g, 5, none⟩ = some (.int .i64 s.r.gone) ∧ W.cell? ⟨g, 6, none⟩ = some (.int .i64 s.r.added) ∧ W.cell? ⟨g, 7, none⟩ = some (.int .i64 s.r.same) ∧ W.cell? ⟨g, 8, none⟩ = some (.int .i64 s.r.other) ∧ W.cell? ⟨g, 9, none⟩ = some (.int .i64 s.r.cycle) ∧ W.cell? ⟨g, 10, none⟩ = some (.int .i64 s.r.full) from fun W h1 => ⟨cell_blk h1 0, cell_blk h1 1, cell_blk h1 2, cell_blk h1 3, cell_blk h1 4, cell_blk h1 5, cell_blk h1 6, cell_blk h1 7, cell_blk h1 8, cell_blk h1 9, cell_blk h1 10⟩)
  have HLIT := Lib.hid (show ∀ (W : World) (q : Nat), W.heap[q]? = some (.cells #[.int .i64 s.session, .int .i64 s.seq, .int .i64 s.at_] 3 (0, 0)) → w.heap.size ≤ q → Ow kInt 3 W w.heap.size (w.heap.size ≤ ·) (.slice (some ⟨q, 0, none⟩) 3 3) [s.session, s.seq, s.at_] from fun W q hq hle => Ow.slit (xs := [s.session, s.seq, s.at_]) hq hle hle (by simp) (by
    intro n hn
    simp only [List.mem_cons, List.not_mem_nil, or_false] at hn
    rcases hn with rfl | rfl | rfl
    · exact hI.1
    · exact hI.2.1
    · exact hI.2.2.1))
  clear hK
  refine wpF_region (fun W => W.cell? ⟨g, 0, none⟩ = some (.int .i64 s.session) ∧ W.cell? ⟨g, 1, none⟩ = some (.int .i64 s.seq) ∧ W.cell? ⟨g, 2, none⟩ = some (.int .i64 s.at_) ∧ W.cell? ⟨g, 3, none⟩ = some (.int .i64 s.r.err) ∧ W.cell? ⟨g, 4, none⟩ = some (.int .i64 s.r.session) ∧ W.cell? ⟨g, 5, none⟩ = some (.int .i64 s.r.gone) ∧ W.cell? ⟨g, 6, none⟩ = some (.int .i64 s.r.added) ∧ W.cell? ⟨g, 7, none⟩ = some (.int .i64 s.r.same) ∧ W.cell? ⟨g, 8, none⟩ = some (.int .i64 s.r.other) ∧ W.cell? ⟨g, 9, none⟩ = some (.int .i64 s.r.cycle) ∧ W.cell? ⟨g, 10, none⟩ = some (.int .i64 s.r.full)) (fun _ => True) 99 13 (by kernel_rfl) (by kernel_rfl) ?_
  rw [← hw0]
  clear hw0
  refine wpF_take0 (i := 0) (v := ?v1) rfl (by kernel_rfl) (by kernel_rfl) (by kernel_rfl) (fun _ _ _ h => h) (by kernel_rfl) (Or.inl ⟨by rfl, ?hy1⟩) (HS0.out _ b0.out) (gone (by kernel_rfl)) ?rest1
  case hy1 => (intro W hSW; (try dsimp only at hSW); go_simp; (try with_reducible rfl))
  (try simp only [Act.put, List.setIfInBounds_toArray, List.set_cons_zero, List.set_cons_succ])
  refine wpF_take0 (i := 1) (v := ?v2) rfl (by kernel_rfl) (by kernel_rfl) (by kernel_rfl) (fun _ _ _ h => h) (by kernel_rfl) (Or.inl ⟨by rfl, ?hy2⟩) (HS0.out _ b0.out) (gone (by kernel_rfl)) ?rest2
  case hy2 => (intro W hSW; (try dsimp only at hSW); go_simp; (try with_reducible rfl))
  (try simp only [Act.put, List.setIfInBounds_toArray, List.set_cons_zero, List.set_cons_succ])
  refine wpF_take0 (i := 2) (v := ?v3) rfl (by kernel_rfl) (by kernel_rfl) (by kernel_rfl) (fun _ _ _ h => h) (by kernel_rfl) (Or.inl ⟨by rfl, ?hy3⟩) (HS0.out _ b0.out) (gone (by kernel_rfl)) ?rest3
  case hy3 => (intro W hSW; (try dsimp only at hSW); go_simp; (try with_reducible rfl))
  (try simp only [Act.put, List.setIfInBounds_toArray, List.set_cons_zero, List.set_cons_succ])
  refine wpF_take0 (i := 3) (v := ?v4) rfl (by kernel_rfl) (by kernel_rfl) (by kernel_rfl) (fun _ _ _ h => h) (by kernel_rfl) (Or.inl ⟨by rfl, ?hy4⟩) (HS0.out _ b0.out) (gone (by kernel_rfl)) ?rest4
  case hy4 => (intro W hSW; (try dsimp only at hSW); go_simp; (try with_reducible rfl))
  (try simp only [Act.put, List.setIfInBounds_toArray, List.set_cons_zero, List.set_cons_succ])
  refine wpF_take0 (i := 4) (v := ?v5) rfl (by kernel_rfl) (by kernel_rfl) (by kernel_rfl) (fun _ _ _ h => h) (by kernel_rfl) (Or.inl ⟨by rfl, ?hy5⟩) (HS0.out _ b0.out) (gone (by kernel_rfl)) ?rest5
  case hy5 => (intro W hSW; (try dsimp only at hSW); go_simp; (try with_reducible rfl))
  (try simp only [Act.put, List.setIfInBounds_toArray, List.set_cons_zero, List.set_cons_succ])
  refine wpF_take0 (i := 5) (v := ?v6) rfl (by kernel_rfl) (by kernel_rfl) (by kernel_rfl) (fun _ _ _ h => h) (by kernel_rfl) (Or.inl ⟨by rfl, ?hy6⟩) (HS0.out _ b0.out) (gone (by kernel_rfl)) ?rest6
  case hy6 => (intro W hSW; (try dsimp only at hSW); go_simp; (try with_reducible rfl))
  (try simp only [Act.put, List.setIfInBounds_toArray, List.set_cons_zero, List.set_cons_succ])
  refine wpF_take0 (i := 7) (v := ?v7) rfl (by kernel_rfl) (by kernel_rfl) (by kernel_rfl) (fun _ _ _ h => h) (by kernel_rfl) (Or.inl ⟨by rfl, ?hy7⟩) (HS0.out _ b0.out) (gone (by kernel_rfl)) ?rest7
  case hy7 => (intro W hSW; (try dsimp only at hSW); go_simp; (try with_reducible rfl))
  (try simp only [Act.put, List.setIfInBounds_toArray, List.set_cons_zero, List.set_cons_succ])
  refine wpF_take0 (i := 8) (v := ?v8) rfl (by kernel_rfl) (by kernel_rfl) (by kernel_rfl) (fun _ _ _ h => h) (by kernel_rfl) (Or.inl ⟨by rfl, ?hy8⟩) (HS0.out _ b0.out) (gone (by kernel_rfl)) ?rest8
  case hy8 => (intro W hSW; (try dsimp only at hSW); go_simp; (try with_reducible rfl))
  (try simp only [Act.put, List.setIfInBounds_toArray, List.set_cons_zero, List.set_cons_succ])
  refine wpF_take0 (i := 12) (v := ?v9) rfl (by kernel_rfl) (by kernel_rfl) (by kernel_rfl) (fun _ _ _ h => h) (by kernel_rfl) (Or.inl ⟨by rfl, ?hy9⟩) (HS0.out _ b0.out) (gone (by kernel_rfl)) ?rest9
  case hy9 => (intro W hSW; (try dsimp only at hSW); go_simp; (try with_reducible rfl))
  (try simp only [Act.put, List.setIfInBounds_toArray, List.set_cons_zero, List.set_cons_succ])
  refine wpF_two (i := 6) (j := 9) (by kernel_rfl) rfl rfl (fun K hK => ?_) (fun K hK => ?_)
  · go_simp
    obtain ⟨w1, hw1⟩ : ∃ W, W = w0.alloc (.cells #[.int .i64 s.session, .int .i64 s.seq, .int .i64 s.at_] 3) := ⟨_, rfl⟩
    have hxa : Ext w0 w1 := by rw [hw1]; exact (Ext.refl _).alloc _
    have x1 := Lib.hid (x0.out.trans hxa)
    have b1 := Lib.hid (blk_ext b0.out hxa)
    obtain ⟨q, hq⟩ : ∃ q, q = w0.heap.size := ⟨_, rfl⟩
    have HQ := Lib.hid (HLIT.out w1 q (by rw [hw1]; exact heap_new _ _ hq.symm _) (by rw [hq]; exact x0.out.le))
    have HXA := Lib.hid hxa
    have HQL := Lib.hid (show q = w0.heap.size from hq)
    rw [← hw1, ← hq]
    clear hw1 hq hxa
    refine hK.out _ _ (HS0.out _ b1.out) (gone (by kernel_rfl)) ?_
    clear hK K
    (try simp only [Act.put, List.setIfInBounds_toArray, List.set_cons_zero, List.set_cons_succ])
    refine wpF_step (i := 9) (by kernel_rfl) rfl (fun K hK => ?_)
    go_simp
    refine (rnumbers_calls w1 s.r hI.2.2.2).mono ?_
    rintro e w2 ⟨v9, rfl, ho9, hx9⟩
    (try go_wp2_with fail)
    have x2 := Lib.hid (x1.out.trans hx9)
    have b2 := Lib.hid (blk_ext b1.out hx9)
    have HR9 := Lib.hid ho9
    have HX9 := Lib.hid hx9
    clear ho9 hx9
    refine hK.out _ _ (HS0.out _ b2.out) (gone (by kernel_rfl)) ?_
    clear hK K
    (try simp only [Act.put, List.setIfInBounds_toArray, List.set_cons_zero, List.set_cons_succ])
    have HQ2 := Lib.hid (HQ.out.ext HX9.out)
    have HR2 := Lib.hid HR9.out.rs
    refine wpF_step (i := 10) (by kernel_rfl) rfl (fun K hK => ?_)
    refine step_append_Rs kInt 33 rfl rfl (.tmp 29) (.tmp 32) 75 3 rfl tInts w.heap.size _ _ [s.session, s.seq, s.at_] s.r.nums (w.heap.size ≤ ·) _ rfl rfl HQ2.out HR2.out (fun y cs hy => hy) ?hn ?hb x2.out.le ?_
    case hn => exact fun b hb => Nat.le_trans x2.out.le hb
    case hb => (show (3 + 8) * 8 ≤ _; omega)
    intro v3 w3 ho3 hg3 _
    have x3 := Lib.hid (x2.out.grown hg3 (fun k hk => HQ2.out.from_ k hk))
    have b3 := Lib.hid ((hg3.block g (blk_lt b2.out) (fun e => by have h1 := HQ2.out.from_ g e.symm; have h2 := blk_lt hg.out; omega)).trans b2.out)
    have ho3' : Ow kInt 3 w3 w.heap.size (w.heap.size ≤ ·) v3 s.nums := ho3
    have HO3 := Lib.hid ho3'
    obtain ⟨A3, c3, e3, -⟩ := ho3'.rs
    subst e3
    clear ho3 hg3
    refine hK.out _ _ (HS0.out _ b3.out) (gone (by kernel_rfl)) ?_
    clear hK K
    (try simp only [Act.put, List.setIfInBounds_toArray, List.set_cons_zero, List.set_cons_succ])
    refine wpF_step (i := 11) (by kernel_rfl) rfl (fun K hK => ?_)
    go_simp
    refine hK.out _ _ (HS0.out _ b3.out) (gone (by kernel_rfl)) ?_
    clear hK K
    (try simp only [Act.put, List.setIfInBounds_toArray, List.set_cons_zero, List.set_cons_succ])
    refine wpF_done (by kernel_rfl) ?_ _
    refine NoPanic.normal ?_
    exact hK2.out _ _ _ _ _ _ _ _ _ _ _ _  (Lib.hid ⟨HO3.out, x3.out⟩)
  · go_simp
    refine (rnumbers_calls w0 s.r hI.2.2.2).mono ?_
    rintro e w1 ⟨v9, rfl, ho9, hx9⟩
    (try go_wp2_with fail)
    have x1 := Lib.hid (x0.out.trans hx9)
    have b1 := Lib.hid (blk_ext b0.out hx9)
    have HR9 := Lib.hid ho9
    have HX9 := Lib.hid hx9
    clear ho9 hx9
    refine hK.out _ _ (HS0.out _ b1.out) (gone (by kernel_rfl)) ?_
    clear hK K
    (try simp only [Act.put, List.setIfInBounds_toArray, List.set_cons_zero, List.set_cons_succ])
    refine wpF_step (i := 6) (by kernel_rfl) rfl (fun K hK => ?_)
    go_simp
    obtain ⟨w2, hw2⟩ : ∃ W, W = w1.alloc (.cells #[.int .i64 s.session, .int .i64 s.seq, .int .i64 s.at_] 3) := ⟨_, rfl⟩
    have hxa : Ext w1 w2 := by rw [hw2]; exact (Ext.refl _).alloc _
    have x2 := Lib.hid (x1.out.trans hxa)
    have b2 := Lib.hid (blk_ext b1.out hxa)
    obtain ⟨q, hq⟩ : ∃ q, q = w1.heap.size := ⟨_, rfl⟩
    have HQ := Lib.hid (HLIT.out w2 q (by rw [hw2]; exact heap_new _ _ hq.symm _) (by rw [hq]; exact x1.out.le))
    have HXA := Lib.hid hxa
    have HQL := Lib.hid (show q = w1.heap.size from hq)
    rw [← hw2, ← hq]
    clear hw2 hq hxa
    refine hK.out _ _ (HS0.out _ b2.out) (gone (by kernel_rfl)) ?_
    clear hK K
    (try simp only [Act.put, List.setIfInBounds_toArray, List.set_cons_zero, List.set_cons_succ])
    have HQ2 := Lib.hid HQ.out
    have HR2 := Lib.hid (HR9.out.ext HXA.out).rs
    refine wpF_step (i := 10) (by kernel_rfl) rfl (fun K hK => ?_)
    refine step_append_Rs kInt 33 rfl rfl (.tmp 29) (.tmp 32) 75 3 rfl tInts w.heap.size _ _ [s.session, s.seq, s.at_] s.r.nums (w.heap.size ≤ ·) _ rfl rfl HQ2.out HR2.out (fun y cs hy => hy) ?hn ?hb x2.out.le ?_
    case hn => exact fun b hb => Nat.le_trans x2.out.le hb
    case hb => (show (3 + 8) * 8 ≤ _; omega)
    intro v3 w3 ho3 hg3 _
    have x3 := Lib.hid (x2.out.grown hg3 (fun k hk => HQ2.out.from_ k hk))
    have b3 := Lib.hid ((hg3.block g (blk_lt b2.out) (fun e => by have h1 := HQ2.out.from_ g e.symm; have h2 := blk_lt hg.out; omega)).trans b2.out)
    have ho3' : Ow kInt 3 w3 w.heap.size (w.heap.size ≤ ·) v3 s.nums := ho3
    have HO3 := Lib.hid ho3'
    obtain ⟨A3, c3, e3, -⟩ := ho3'.rs
    subst e3
    clear ho3 hg3
    refine hK.out _ _ (HS0.out _ b3.out) (gone (by kernel_rfl)) ?_
    clear hK K
    (try simp only [Act.put, List.setIfInBounds_toArray, List.set_cons_zero, List.set_cons_succ])
    refine wpF_step (i := 11) (by kernel_rfl) rfl (fun K hK => ?_)
    go_simp
    refine hK.out _ _ (HS0.out _ b3.out) (gone (by kernel_rfl)) ?_
    clear hK K
    (try simp only [Act.put, List.setIfInBounds_toArray, List.set_cons_zero, List.set_cons_succ])
    refine wpF_done (by kernel_rfl) ?_ _
    refine NoPanic.normal ?_
    exact hK2.out _ _ _ _ _ _ _ _ _ _ _ _  (Lib.hid ⟨HO3.out, x3.out⟩)
end Go.Proofs.Ytkedmpppfejofaa
set_option linter.unusedVariables false
set_option linter.unusedSimpArgs false
namespace Go.Proofs.Ytkedmpppfejofaa
open Go.RowKit

set_option maxRecDepth 100000 in
set_option maxHeartbeats 4000000 in
theorem RImage_calls (w : World) (p : Nat) (E : Nat → Prop) (L : List SeatS) (hok : ∀ s ∈ L, SeatI s) (hl9 : L.length ≤ 9) (h : RTab w p E L) :
    Calls Try.prog 43 #[.pointer (some ⟨p, 0, none⟩)] w fun e w' => ∃ v, e = .returned v ∧ Ow kByte 5 w' w.heap.size (w.heap.size ≤ ·) v (imgL L) ∧ Ext w w' := by
  have HOK := Lib.hid hok
  obtain ⟨v, hb, hr, -⟩ := h
  obtain ⟨A, c, rfl, hl, hc, hz, hrow⟩ := hr
  have HB := Lib.hid hb
  have HR := Lib.hid hrow
  have hcell : w.cell? ⟨p, 0, none⟩ = some (.slice A L.length c) := cell_blk hb 0
  clear hb hrow hok
  go_enter Try.func43, Try.ntmps43
  go_wp2_with fail
  refine (RefNumber_calls w (fun _ => True) _ [] (L.length : Int) (Rs.nil _ _ _) ⟨by omega, by omega⟩ (by simp)).mono ?_
  rintro e w2 ⟨v1, rfl, ho, hx⟩
  rw [List.nil_append, Int.toNat_natCast] at ho
  have HO2 := Lib.hid ho
  have HX2 := Lib.hid hx
  have HD := Lib.hid (digs_len L.length (by omega)).2
  clear ho hx hcell
  have hcell : w2.cell? ⟨p, 0, none⟩ = some (.slice A L.length c) := cell_blk (blk_ext HB.out HX2.out) 0
  go_wp2_with fail
  go_loopw [3, 19] (fun v i wr => ∃ k : Nat, k ≤ L.length ∧ i = .int .i64 k ∧ Hid (Ow kByte 5 wr w.heap.size (w.heap.size ≤ ·) v (digs L.length ++ imgT (L.take k))) ∧ Hid (Ext w2 wr)) (fun _ i _ => L.length - (intOf i).toNat)
  case atStart => exact ⟨0, Nat.zero_le _, rfl, Lib.hid (by simpa [imgT] using HO2.out), Lib.hid (Ext.refl _)⟩
  case round =>
    clear HO2 hcell
    obtain ⟨k, hk, rfl, HO, HX⟩ := hrel
    by_cases hlt : k < L.length
    · obtain ⟨ad, rfl, -, -, hi, hx⟩ := (HR.out.keep (w' := wr) fun b _ hl => (HX2.out.trans HX.out).block b hl).seat hlt
      have HTK := Lib.hid (imgT_take L k hlt)
      have HTL := Lib.hid (show (imgT (L.take k)).length ≤ 1000 by
        have h1 := imgT_len (L.take k) (fun s hs => HOK.out s (List.mem_of_mem_take hs))
        rw [List.length_take] at h1
        omega)
      have HI := Lib.hid hi
      obtain ⟨x0, x1, x2, x3, x4, x5, x6, x7, x8, x9, x10⟩ := seat_at hx
      generalize L[k] = s at *
      clear hx hi
      go_upto_region 5 with fail
      obtain ⟨w5, hw5⟩ : ∃ w5, w5 = wr.alloc (.cells (seatC s) 47) := ⟨_, rfl⟩
      obtain ⟨g, hg⟩ : ∃ g, g = wr.heap.size := ⟨_, rfl⟩
      have hx5 : Ext wr w5 := by rw [hw5]; exact (Ext.refl _).alloc _
      have HX5 := Lib.hid (HX.out.trans hx5)
      have HO5 := Lib.hid (HO.out.ext hx5)
      have HD5 := Lib.hid (show w5.heap[g]? = some (.cells (seatC s) 47 (0, 0)) by rw [hw5]; exact heap_new wr g hg.symm _)
      unfold seatC at hw5
      rw [← hw5, ← hg]
      clear hw5 hg hx5 x0 x1 x2 x3 x4 x5 x6 x7 x8 x9 x10 HX HO
      refine simg5 g s HI.out HD5 ?_
      intros
      rename_i w6 hrel
      have HX6 := Lib.hid (HX5.out.trans hrel.out.2)
      have HO6 := Lib.hid (HO5.out.ext hrel.out.2)
      obtain ⟨A3, c3, e3, -, -, -, hrow3⟩ := hrel.out.1.rs
      subst e3
      have HR3 := Lib.hid hrow3.bound
      have HJ := Lib.hid hlt
      have hl11 : s.nums.length = 11 := rfl
      have HL11 := Lib.hid hl11
      clear hlt hrel hrow3 HX5 HO5 HD5
      simp only [hl11, Int.cast_ofNat_Int]
      clear hl11
      go_wp2_with fail
      go_loopw [3, 35] (fun v i wi => ∃ j : Nat, j ≤ 11 ∧ i = .int .i64 j ∧ Hid (Ow kByte 5 wi w.heap.size (w.heap.size ≤ ·) v (digs L.length ++ imgT (L.take k) ++ seqB (s.nums.take j))) ∧ Hid (Ext w6 wi)) (fun _ i _ => 11 - (intOf i).toNat)
      case atStart => exact ⟨0, Nat.zero_le _, rfl, Lib.hid (by simpa [seqB] using HO6.out), Lib.hid (Ext.refl _)⟩
      case round =>
        clear HO6
        obtain ⟨j, hj, rfl, HO, HX⟩ := hrel
        by_cases hlt : j < 11
        · have hjl : j < s.nums.length := hlt
          obtain ⟨ad3, rfl, hcell, -⟩ := (HR3.out.keep (w' := wr) fun b hb _ => HX.out.block b hb.2).int hjl
          have HNT := Lib.hid (seqB_take s.nums j hjl)
          have HNI := Lib.hid (HI.out.nums _ (List.getElem_mem hjl))
          have HNTL := Lib.hid (show (seqB (s.nums.take j)).length ≤ 99 by
            have h1 := seqB_len (s.nums.take j) (fun n hn => HI.out.nums n (List.mem_of_mem_take hn))
            rw [List.length_take] at h1
            omega)
          generalize s.nums[j] = x at *
          clear hjl
          go_wp2_with fail
          refine (RefNumber_calls _ _ _ _ x HO.out.rs HNI.out (by
            rw [List.length_append, List.length_append]
            have h1 := HD.out
            have h2 := HTL.out
            have h3 := HNTL.out
            omega)).mono ?_
          rintro e w7 ⟨v7, rfl, ho7, hx7⟩
          rw [List.append_assoc, ← HNT.out] at ho7
          have hxx := HX6.out.trans HX.out
          have hle := (HX2.out.trans hxx).le
          have HO7 := Lib.hid ((ho7.lower hle).mono fun k hk => Nat.le_trans hle hk)
          have HX7 := Lib.hid (HX.out.trans hx7)
          clear ho7 hx7 hcell hxx hle
          go_wp2_with fail
          go_roundw
          case rel => exact ⟨j + 1, by omega, by go_num, HO7, HX7⟩
          case measure => simp [intOf]; omega
        · obtain rfl : j = 11 := by omega
          have ho := HO.out
          rw [show s.nums.take 11 = s.nums from rfl, List.append_assoc, ← HTK.out] at ho
          have HO8 := Lib.hid ho
          have HX8 := Lib.hid (HX6.out.trans HX.out)
          have hjj := HJ.out
          clear ho HO
          go_wp2_with fail
          go_roundw
          case rel => exact ⟨k + 1, by omega, by go_num, HO8, HX8⟩
          case measure => simp [intOf]; omega
    · obtain rfl : k = L.length := by omega
      have ho := HO.out
      rw [List.take_length] at ho
      have HO8 := Lib.hid (show Ow kByte 5 wr w.heap.size (w.heap.size ≤ ·) _ (imgL L) from ho)
      clear ho HO
      go_wp2_with fail
      go_ret
      exact ⟨_, rfl, HO8.out, HX2.out.trans HX.out⟩
end Go.Proofs.Ytkedmpppfejofaa
set_option linter.unusedVariables false
set_option linter.unusedSimpArgs false
namespace Go.Proofs.Ytkedmpppfejofaa
open Go.RowKit

set_option maxRecDepth 100000 in
set_option maxHeartbeats 1000000 in
theorem SClone_calls (w : World) (p b : Nat) (L : List SeatS) (h : TabS w p b L) :
    Calls Try.prog 23 #[.pointer (some ⟨p, 0, none⟩)] w fun e w' => ∃ p' b', w.heap.size ≤ p' ∧ w.heap.size ≤ b' ∧ e = .returned (.pointer (some ⟨p', 0, none⟩)) ∧ TabS w' p' b' L ∧ Ext w w' := by
  have HT := Lib.hid h
  have hc : w.cell? ⟨p, 0, none⟩ = some (.map (some b)) := cell_blk h.1 0
  have HCL := Lib.hid (AnyW.maps_Clone_owns Try.cloneA 3 seatR b L.length (encL L) w h.2.1)
  clear h
  go_enter Try.func23, Try.ntmps23
  go_wp2_with fail
  refine (made_calls w p b L HT.out).mono ?_
  rintro e w' ⟨rfl, rfl⟩
  go_wp2_with fail
  refine (show Calls Try.prog 41 #[.map (some b)] w _ from HCL.out).mono ?_
  rintro e w1 ⟨rfl, h1, -, hb⟩
  have HM := Lib.hid (show TabM w1 w.heap.size L from TabM.of h1)
  have HX := Lib.hid (show Ext w w1 from hb)
  clear h1 hb hc HCL
  go_wp2_with fail
  go_ret
  refine ⟨w1.heap.size, w.heap.size, HX.out.le, Nat.le_refl _, rfl, ⟨heap_new _ _ rfl _, HM.out.ext ((Ext.refl _).alloc _), by have := HM.out.lt; omega⟩, HX.out.alloc _⟩
set_option maxRecDepth 100000 in
set_option maxHeartbeats 4000000 in
theorem tells_calls (w : World) (p b px : Nat) (E : Nat → Prop) (L : List SeatS) (hok : TabOk L) (h : TabS w p b L) (hx : RTab w px E L) :
    Calls Try.prog 28 #[.pointer (some ⟨p, 0, none⟩), .pointer (some ⟨px, 0, none⟩)] w fun e w' => e = .returned (.bool true) ∧ Ext w w' := by
  have HT := Lib.hid h
  have HRT := Lib.hid hx
  have HOK := Lib.hid hok
  have hl8 := hok.len
  clear h hx hok
  go_enter Try.func28, Try.ntmps28
  go_wp2_with fail
  refine (Seats_calls w p b L HOK.out.rise HOK.out.i HOK.out.len1 HT.out).mono ?_
  rintro e w1 ⟨v, rfl, ho, hx⟩
  have HX1 := Lib.hid hx
  have HO1 := Lib.hid ho
  obtain ⟨A, c, rfl, -⟩ := ho.rs
  obtain ⟨v2, hb2, hr2, -⟩ := HRT.out.ext hx
  have HR2 := Lib.hid hr2
  obtain ⟨A2, c2, rfl, -⟩ := hr2
  have hcell : w1.cell? ⟨px, 0, none⟩ = some (.slice A2 L.length c2) := cell_blk hb2 0
  clear ho hx hb2
  go_wp2_with fail
  refine (EqualS_calls w1 _ _ _ _ _ _ HO1.out.rs HR2.out).mono ?_
  rw [eqL_self]
  rintro e w2 ⟨rfl, nn, hw2⟩
  have HX12 := Lib.hid (show Ext w1 w2 by rw [hw2]; exact (Ext.refl _).drewN nn)
  have HX2 := Lib.hid (HX1.out.trans HX12.out)
  clear hw2 hcell
  go_wp2_with fail
  refine (Image_calls w2 p b L HOK.out (HT.out.ext HX2.out)).mono ?_
  rintro e w3 ⟨v3, rfl, ho3, hx3⟩
  have HX13 := Lib.hid (HX12.out.trans hx3)
  have HX3 := Lib.hid (HX2.out.trans hx3)
  have HI3 := Lib.hid ho3.rs
  clear ho3 hx3
  go_wp2_with fail
  refine (RImage_calls w3 px E L HOK.out.i (by omega) (HRT.out.ext HX3.out)).mono ?_
  rintro e w4 ⟨v4, rfl, ho4, hx4⟩
  have HX14 := Lib.hid (HX13.out.trans hx4)
  have HX4 := Lib.hid (HX3.out.trans hx4)
  have HI4 := Lib.hid (HI3.out.ext hx4)
  have HJ4 := Lib.hid ho4.rs
  clear ho4 hx4
  go_wp2_with fail
  refine (Equal_same w4 _ _ _ _ _ HI4.out HJ4.out).mono ?_
  rintro e w' ⟨rfl, rfl⟩
  by_cases hL : L.length = 0
  · obtain rfl : L = [] := List.eq_nil_of_length_eq_zero hL
    clear hL
    simp only [List.length_nil]
    go_wp2_with fail
    go_loopw [25] (fun i wr => i = .int .i64 0 ∧ Hid (Ext w wr)) (fun i _ => 0)
    case atStart => exact ⟨rfl, HX4⟩
    case round =>
      obtain ⟨rfl, HX⟩ := hrel
      go_wp2_with fail
      go_ret
      exact ⟨rfl, HX.out⟩
  · have hpos : 0 < L.length := by omega
    obtain ⟨g, cap, e1, hg, hgl, hcap, -⟩ := HO1.out.form hpos
    simp only [Value.slice.injEq, true_and] at e1
    obtain ⟨rfl, rfl⟩ := e1
    have HG := Lib.hid hg
    obtain ⟨cs, hcs, hsz⟩ : ∃ cs : Array Value, w4.heap[g]? = some (.cells cs 47 (0, 0)) ∧ L.length * 11 ≤ cs.size := by
      obtain ⟨_, _, cells, ho, _⟩ := HO1.out
      rcases ho.2 with ⟨h2, _⟩ | ⟨g', cap', cur, h2, _, hh, hn, _, hs, _⟩
      · simp at h2
      · simp only [Value.slice.injEq, Option.some.injEq, Addr.mk.injEq] at h2
        obtain ⟨⟨rfl, -, -⟩, -, rfl⟩ := h2
        refine ⟨cur, blk_ext hh HX14.out, ?_⟩
        have h11 : kSeat.sz = 11 := rfl
        rw [h11] at hs
        rw [hs]
        exact Nat.mul_le_mul_right _ hcap
    have HCS := Lib.hid hcs
    have HSZ := Lib.hid hsz
    clear hL hcs hsz hg hgl hcap
    go_wp2_with fail
    go_loopw [25] (fun i wr => ∃ k : Nat, k ≤ L.length ∧ i = .int .i64 k ∧ Hid (Ext w wr) ∧ ∃ cs : Array Value, Hid (wr.heap[g]? = some (.cells cs 47 (0, 0))) ∧ Hid (L.length * 11 ≤ cs.size)) (fun i _ => L.length - (intOf i).toNat)
    case atStart => exact ⟨0, Nat.zero_le _, rfl, HX4, cs, HCS, HSZ⟩
    case round =>
      clear HCS HSZ
      obtain ⟨k, hk, rfl, HX, cs, HCS, HSZ⟩ := hrel
      by_cases hlt : k < L.length
      · have hin : k * 11 + 1 < cs.size := by have := HSZ.out; omega
        have hcl : wr.cell? ⟨g, k * 11 + 1, none⟩ = some cs[k * 11 + 1] := by rw [cell_blk HCS.out]; exact Array.getElem?_eq_getElem hin
        have hfr : wr.frozen? ⟨g, k * 11 + 1, none⟩ = false := frozen_blk HCS.out _
        generalize cs[k * 11 + 1] = old at hcl
        have HX5 := Lib.hid (show Ext w (wr.setCell ⟨g, k * 11 + 1, none⟩ (.int .i64 (-7))) from HX.out.seti (Nat.le_trans (Nat.le_refl _) HG.out) _)
        have HC5 := Lib.hid (heap_setCell_same wr g (k * 11 + 1) _ _ (.int .i64 (-7)) HCS.out)
        have HS5 := Lib.hid (show L.length * 11 ≤ (cs.setIfInBounds (k * 11 + 1) (.int .i64 (-7))).size by rw [Array.size_setIfInBounds]; exact HSZ.out)
        clear hin
        go_wp2_with fail
        go_roundw
        case rel => exact ⟨k + 1, by omega, by go_num, HX5, _, HC5, HS5⟩
        case measure => simp [intOf]; omega
      · obtain rfl : k = L.length := by omega
        go_wp2_with fail
        go_ret
        exact ⟨rfl, HX.out⟩
end Go.Proofs.Ytkedmpppfejofaa
