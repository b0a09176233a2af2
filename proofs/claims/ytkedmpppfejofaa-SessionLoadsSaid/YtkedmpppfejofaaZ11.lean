/-
  Texts of this claim, put together: SesRKeep, SesImg, RegF2, Step.
-/
import Derived.Test.YtkedmpppfejofaaZ9
import Derived.Deep.MidRow
import Derived.Test.YtkedmpppfejofaaZ10
import Derived.Test.YtkedmpppfejofaaZ2
import Derived.Test.YtkedmpppfejofaaZ1
import Derived.Deep.RegionLaw
set_option linter.unusedVariables false
set_option linter.unusedSimpArgs false
namespace Go.Proofs.Ytkedmpppfejofaa
open Go.RowKit

theorem upd_setCells (g : Nat) : ∀ (vs : List Value) (i : Nat) (w : World), Upd (fun k => k = g) w (w.setCells g i vs)
  | [], _, w => Upd.refl _ _
  | v :: r, i, w => by
    rw [World.setCells]
    exact ((Upd.refl (fun k => k = g) w).set (i := i) (.inl rfl) v).trans (upd_setCells g r (i + 1) _)
theorem seatC_one (s : SeatS) : (seatC s).all (·.oneCell') = true := by simp [seatC, Value.oneCell']
theorem Ow.lit0 {α : Type} {d : Kd α} {w : World} {base g : Nat} {e : TypeId} {S : Nat → Prop} (hb : w.heap[g]? = some (.cells #[] e (0, 0))) (hbase : base ≤ g) (hS : S g) : Ow d e w base S (.slice (some ⟨g, 0, none⟩) 0 0) [] :=
  ⟨fun k hk => by simp [Value.ownBlock] at hk; exact hk ▸ hS, by simp, [], ⟨by simp, .inr ⟨g, 0, #[], rfl, hbase, hb, Nat.le_refl _, by simp [maxLen], by simp, by simp⟩⟩, fun j x hj => by simp at hj⟩
/-- A seat stored whole into a list. -/
theorem Rs.set_seat {w : World} {S : Nat → Prop} {g cap : Nat} {xs : List SeatS} {e : TypeId} {base : Nat} (h : Ow kSeat e w base S (.slice (some ⟨g, 0, none⟩) xs.length cap) xs) {k : Nat} (hk : k < xs.length) {x : SeatS} (hx : SeatI x) :
    w.there g (k * 11) (seatC x).size ∧ Rs kSeat (w.setCells g (k * 11) (seatC x).toList) S (.slice (some ⟨g, 0, none⟩) xs.length cap) (xs.set k x) := by
  have hr := h.rs
  have hz := h.2.1
  obtain ⟨g', cap', e1, hb1, hl1, hc1, hS⟩ := h.form (by omega)
  simp only [Value.slice.injEq, Option.some.injEq, Addr.mk.injEq] at e1
  obtain ⟨⟨rfl, -, -⟩, -, rfl⟩ := e1
  obtain ⟨_, _, cells, ho, _⟩ := h
  have hfz : ∀ i, w.frozen? ⟨g, i, none⟩ = false := by
    rcases ho.2 with ⟨h2, _⟩ | ⟨g2, cap2, cur, h2, _, hh, _⟩
    · simp at h2
    · simp only [Value.slice.injEq, Option.some.injEq, Addr.mk.injEq] at h2
      obtain ⟨⟨rfl, -, -⟩, -, -⟩ := h2
      exact fun i => frozen_blk hh i
  obtain ⟨A, c, e2, hl, hc, _, hrow⟩ := hr
  simp only [Value.slice.injEq] at e2
  obtain ⟨rfl, -, rfl⟩ := e2
  have hcell : ∀ j (hj : j < xs.length) i u, (seatC xs[j])[i]? = some u → w.cell? ⟨g, j * 11 + i, none⟩ = some u := by
    intro j hj i u hu
    obtain ⟨ad, e3, -, -, -, h4⟩ := hrow.seat hj
    injection e3 with e3
    subst e3
    have := h4 i u hu
    rwa [add_lit0] at this
  have hth : w.there g (k * 11) (seatC x).size := by
    intro j hj
    have hj' : j < (seatC xs[k]).size := hj
    exact ⟨by rw [hcell k hk j _ (Array.getElem?_eq_getElem hj')]; rfl, hfz _⟩
  refine ⟨hth, ⟨_, cap, by rw [List.length_set], by rw [List.length_set]; exact hl, hc, by rw [List.length_set]; exact hz, fun _ => ⟨_, rfl, hS, ?_, fun j y hj => ?_⟩⟩⟩
  · exact Nat.lt_of_lt_of_le hl1 (upd_setCells g _ _ w).size
  · have hjl : j < xs.length := by have := (List.getElem?_eq_some_iff.1 hj).1; rwa [List.length_set] at this
    by_cases he : k = j
    · subst he
      rw [List.getElem?_set_self hk] at hj
      obtain rfl : x = y := by simpa using hj
      refine ⟨_, kSeat_iff.2 ⟨rfl, hx⟩, fun i u hi => ?_⟩
      rw [add_lit0]
      exact World.rangeAt_setCells_same w g (k * 11) (seatC x).toList (by simpa using hth) i u hi
    · rw [List.getElem?_set_ne he, List.getElem?_eq_getElem hjl] at hj
      obtain rfl : xs[j] = y := by simpa using hj
      obtain ⟨ad, e3, -, -, h5, h4⟩ := hrow.seat hjl
      refine ⟨_, kSeat_iff.2 ⟨rfl, h5⟩, fun i u hi => ?_⟩
      rw [add_lit0]
      have hr1 : w.rangeAt g (j * 11) (seatC xs[j]).toList := fun i u hi => hcell j hjl i u (by simpa using hi)
      refine World.rangeAt_setCells_apart hr1 g (k * 11) (seatC x).toList (.inr ?_) i u hi
      have l1 : (seatC xs[j]).toList.length = 11 := rfl
      have l2 : (seatC x).toList.length = 11 := rfl
      rw [l1, l2]
      rcases Nat.lt_or_gt_of_ne he with h6 | h6
      · right
        show k * 11 + 11 ≤ j * 11
        omega
      · left
        show j * 11 + 11 ≤ k * 11
        omega
theorem insS_mid (x : SeatS) : ∀ (a c : List SeatS), (∀ s ∈ a, s.session < x.session) → (∀ s ∈ c, x.session < s.session) → insS x (a ++ c) = a ++ x :: c
  | [], [], _, _ => rfl
  | [], y :: c, _, h => by
    rw [List.nil_append]
    unfold insS
    rw [if_pos (h y (List.mem_cons_self ..))]
    rfl
  | s :: a, c, h1, h2 => by
    rw [List.cons_append]
    unfold insS
    rw [if_neg (by have := h1 s (List.mem_cons_self ..); omega), insS_mid x a c (fun t ht => h1 t (List.mem_cons_of_mem _ ht)) h2]
    rfl
theorem set_putS {L : List SeatS} (hr : Rise L) {k : Nat} (hk : k < L.length) {x : SeatS} (he : L[k].session = x.session) : L.set k x = putS L x := by
  have e0 : L = L.take k ++ L[k] :: L.drop (k + 1) := by
    rw [← List.drop_eq_getElem_cons hk, List.take_append_drop]
  have ht : ∀ s ∈ L.take k, s.session < x.session := by
    intro s hs
    obtain ⟨i, hi, rfl⟩ := List.getElem_of_mem hs
    rw [List.getElem_take, ← he]
    have hi' : i < k ∧ i < L.length := by rw [List.length_take] at hi; omega
    exact List.pairwise_iff_getElem.1 hr i k hi'.2 hk hi'.1
  have hd : ∀ s ∈ L.drop (k + 1), x.session < s.session := by
    intro s hs
    obtain ⟨i, hi, rfl⟩ := List.getElem_of_mem hs
    rw [List.getElem_drop, ← he]
    rw [List.length_drop] at hi
    exact List.pairwise_iff_getElem.1 hr k (k + 1 + i) hk (by omega) (by omega)
  have e1 : L.filter (fun s => decide (s.session ≠ x.session)) = L.take k ++ L.drop (k + 1) := by
    conv => lhs; rw [e0]
    rw [List.filter_append, List.filter_cons_of_neg (by simpa using he)]
    rw [List.filter_eq_self.2 (fun s hs => by have := ht s hs; simp; omega), List.filter_eq_self.2 (fun s hs => by have := hd s hs; simp; omega)]
  unfold putS
  rw [e1, insS_mid x _ _ ht hd, List.set_eq_take_append_cons_drop, if_pos hk]
set_option maxRecDepth 100000 in
set_option maxHeartbeats 8000000 in
theorem RKeep_calls (w : World) (p : Nat) (E : Nat → Prop) (L : List SeatS) (n q at0 : Int) (r : ReplyS) (hq : I64 q) (hrI : ReplyI r) (hok : TabOk L) (hE : ∀ k, E k → k < w.heap.size) (h : RTab w p E L) :
    Calls Try.prog 27 #[.pointer (some ⟨p, 0, none⟩), .int .i64 n, .int .i64 q, .int .i64 at0, .agg (replyC r)] w fun e w' => e = .returned (.int .i64 (keepS L n q at0 r).2) ∧ RTab w' p E (keepS L n q at0 r).1 ∧ Upd (fun k => k = p) w w' := by
  have HT := Lib.hid h
  have HOK := Lib.hid hok
  have HE := Lib.hid hE
  have HQ := Lib.hid hq
  have HRI := Lib.hid hrI
  have hl8 := hok.len
  clear h hok hE hrI hq
  dsimp only [replyC]
  go_enter Try.func27, Try.ntmps27
  go_upto_region 1 with fail
  obtain ⟨w1, hw1⟩ : ∃ w1, w1 = w.alloc (.cells (replyC r) 26) := ⟨_, rfl⟩
  obtain ⟨g, hg⟩ : ∃ g, g = w.heap.size := ⟨_, rfl⟩
  have HX1 := Lib.hid (show Ext w w1 by rw [hw1]; exact (Ext.refl w).alloc _)
  have HB1 := Lib.hid (show w1.heap[g]? = some (.cells (replyC r) 26 (0, 0)) by rw [hw1]; exact heap_new w g hg.symm _)
  have HGP := Lib.hid (show ¬ p = g by have := HT.out.lt; omega)
  have HG := Lib.hid hg
  unfold replyC at hw1
  rw [← hw1, ← hg]
  clear hw1 hg
  go_wp2_with fail
  refine (RAsk_calls w1 p E L n q HOK.out HQ.out (HT.out.ext HX1.out)).mono ?_
  have HK := Lib.hid (show keepS L n q at0 r = if (askS L n q).2.2 ≠ 0 then (L, (askS L n q).2.2)
    else if (askS L n q).2.1 = true then (L, 81)
    else if idxF at0 = false ∨ chkR8 r = false ∨ 1099511627776 < q then (L, 1) else (putS L ⟨n, q, at0, r⟩, 0) from rfl)
  have HKI := Lib.hid (fun h => keepS_iff (L := L) (n := n) (q := q) (at0 := at0) (r := r) h)
  generalize askS L n q = a at HK ⊢
  obtain ⟨a1, a2, a3⟩ := a
  dsimp only at HK ⊢
  rintro e w2 ⟨rfl, hx⟩
  have HX2 := Lib.hid (HX1.out.trans hx)
  have HB2 := Lib.hid (blk_ext HB1.out hx)
  clear hx HB1 HX1
  dsimp only [replyC]
  go_upto_region 2 with fail
  obtain ⟨w3, hw3⟩ : ∃ w3, w3 = w2.alloc (.cells (replyC a1) 26) := ⟨_, rfl⟩
  have hx3 : Ext w2 w3 := by rw [hw3]; exact (Ext.refl _).alloc _
  have HX3 := Lib.hid (HX2.out.trans hx3)
  have HB3 := Lib.hid (blk_ext HB2.out hx3)
  have HT3 := Lib.hid (HT.out.ext HX3.out)
  unfold replyC at hw3
  rw [← hw3]
  clear hw3 hx3 HB2 HX2
  by_cases h0 : a3 = 0
  · subst h0
    cases a2
    · have HBAD := Lib.hid (show (idxF at0 = false ∨ chkR8 r = false ∨ 1099511627776 < q) → keepS L n q at0 r = (L, 1) from fun h => by rw [HK.out, if_neg (by simp), if_neg (by simp), if_pos h])
      by_cases ha1 : at0 < 1
      · have HF := Lib.hid (HBAD.out (.inl (idx_false.2 (.inl ha1))))
        clear HBAD HK
        go_wp2_with fail
        go_ret
        rw [HF.out]
        exact ⟨rfl, HT3.out, HX3.out.upd _⟩
      by_cases ha2 : 1099511627776 < at0
      · have HF := Lib.hid (HBAD.out (.inl (idx_false.2 (.inr ha2))))
        clear HBAD HK
        go_wp2_with fail
        go_ret
        rw [HF.out]
        exact ⟨rfl, HT3.out, HX3.out.upd _⟩
      by_cases hq2 : 1099511627776 < q
      · have HF := Lib.hid (HBAD.out (.inr (.inr hq2)))
        clear HBAD HK
        go_wp2_with fail
        go_ret
        rw [HF.out]
        exact ⟨rfl, HT3.out, HX3.out.upd _⟩
      obtain ⟨x0, x1, x2, x3, x4, x5, x6, x7⟩ := rep_cells HB3.out
      go_wp2_with fail
      refine (RCheck_calls w3 r HRI.out).mono ?_
      unfold chk8E
      cases hc : chkR8 r
      · have HF := Lib.hid (HBAD.out (.inr (.inl hc)))
        clear HBAD HK hc
        simp only [Bool.false_eq_true, if_false]
        rintro e w4 ⟨rfl, hx⟩
        have HX4 := Lib.hid (HX3.out.trans hx)
        clear hx x0 x1 x2 x3 x4 x5 x6 x7
        go_wp2_with fail
        go_ret
        rw [HF.out]
        exact ⟨rfl, HT.out.ext HX4.out, HX4.out.upd _⟩
      · have hia : idxF at0 = true := idxF_iff.2 ⟨by omega, by omega⟩
        have HF := Lib.hid (show keepS L n q at0 r = (putS L ⟨n, q, at0, r⟩, 0) by rw [HK.out, if_neg (by simp), if_neg (by simp), if_neg (by rw [hia, hc]; simp; omega)])
        obtain ⟨s, hfs, hs1, hs2, -⟩ := HKI.out (by rw [HF.out])
        have hns : I64 n := by have := (HOK.out.ok s (List.mem_of_find?_eq_some hfs)).i.1; rwa [findS_session hfs] at this
        have hai : I64 at0 := ⟨by omega, by omega⟩
        have HSI := Lib.hid (show SeatI ⟨n, q, at0, r⟩ from ⟨hns, HQ.out, hai, HRI.out⟩)
        obtain ⟨k, hk, HPL, HSET⟩ : ∃ k, k < L.length ∧ Hid (plc L n = (k : Int)) ∧ Hid (L.set k ⟨n, q, at0, r⟩ = putS L ⟨n, q, at0, r⟩) := by
          rcases plc_find L n with ⟨_, hf⟩ | ⟨k, hk, hp, hf, he⟩
          · rw [hf] at hfs; cases hfs
          · exact ⟨k, hk, Lib.hid hp, Lib.hid (set_putS HOK.out.rise hk he)⟩
        clear HBAD HK HKI hc hfs hs1 hs2 hns hia hai
        simp only [if_true]
        rintro e w4 ⟨rfl, hx⟩
        have HX4 := Lib.hid (HX3.out.trans hx)
        have HB4 := Lib.hid (blk_ext HB3.out hx)
        have HT4 := Lib.hid (HT.out.ext HX4.out)
        clear hx x0 x1 x2 x3 x4 x5 x6 x7 HX3 HB3 HT3
        obtain ⟨v, hb, hr, hEp⟩ := HT4.out
        have HBP := Lib.hid hb
        have HRS := Lib.hid hr.under
        obtain ⟨A, c, rfl, hl, hc, hz, -⟩ := hr
        have hcell : w4.cell? ⟨p, 0, none⟩ = some (.slice A L.length c) := cell_blk hb 0
        have HEP := Lib.hid hEp
        have hpl : p < w4.heap.size := blk_lt hb
        clear hb hEp
        go_wp2_with (at_builtin; refine wpList_append_Rs kSeat rfl (.tmp 42) (.tmp 46) 44 47 rfl tSeats w4.heap.size _ _ [] L (w4.heap.size ≤ ·) (· < w4.heap.size) rfl rfl ?co ?cr ?cs ?cn ?cb ?cz ?_)
        case co => exact Ow.lit0 (heap_new w4 _ rfl _) (Nat.le_refl _) (Nat.le_refl _)
        case cr => exact HRS.out.alloc _
        case cs => exact fun y cs hy => kSeat_iff.2 (kSeat_iff.1 hy)
        case cn => intro b hb; simp at hb; omega
        case cb => simp only [List.length_nil]; omega
        case cz => simp
        intro v5 w50 ho hg5 _
        have hx5 : Ext w4 w50 := ((Ext.refl _).alloc _).grown hg5 (fun j hj => by simp [Value.ownBlock] at hj; omega)
        obtain ⟨gb, cap, e5, hgb, hgl, hcl, -⟩ := ho.form (by omega)
        subst e5
        have HO50 := Lib.hid ho
        have HX50 := Lib.hid (HX4.out.trans hx5)
        have HX45 := Lib.hid hx5
        have HB50 := Lib.hid (blk_ext HB4.out hx5)
        have HGB := Lib.hid hgb
        clear ho hg5 hx5 hcell
        go_upto_region 9 with fail
        obtain ⟨w5, hw5⟩ : ∃ w5, w5 = w50.drew := ⟨_, rfl⟩
        have HO5 := Lib.hid (show Ow kSeat 47 w5 w4.heap.size (w4.heap.size ≤ ·) (.slice (some ⟨gb, 0, none⟩) L.length cap) L by rw [hw5]; exact HO50.out.drew)
        have HX5 := Lib.hid (show Ext w w5 by rw [hw5]; exact HX50.out.drew)
        have HB5 := Lib.hid (show w5.heap[g]? = some (.cells (replyC r) 26 (0, 0)) by rw [hw5]; exact HB50.out)
        have HT5 := Lib.hid (HT.out.ext HX5.out)
        have HBP5 := Lib.hid (show w5.heap[p]? = some (.cells #[.slice A L.length c] 61 (0, 0)) by rw [hw5]; exact blk_ext HBP.out HX45.out.drew)
        obtain ⟨hth, hrs⟩ := Rs.set_seat HO5.out hk HSI.out
        have HTH := Lib.hid hth
        have hu6 := upd_setCells gb (seatC ⟨n, q, at0, r⟩).toList (k * 11) w5
        have hgw : w.heap.size < w4.heap.size := by have := blk_lt HB4.out; have := HG.out; omega
        have hng : ¬ g = gb := by have := blk_lt HB4.out; have := HGB.out; omega
        have hnp : ¬ p = gb := by have := blk_lt HBP.out; have := HGB.out; omega
        have HB6 := Lib.hid (blk_upd HB5.out hu6 hng)
        have HBP6 := Lib.hid (blk_upd HBP5.out hu6 hnp)
        have HRS6 := Lib.hid hrs
        have HX6 := Lib.hid (hu6.ext HX5.out (fun j hj => by rw [hj]; have := HGB.out; omega))
        have HS0 := Lib.hid (show ∀ W : World, W.heap[g]? = some (.cells (replyC r) 26 (0, 0)) → W.cell? ⟨g, 0, none⟩ = some (.int .i64 r.err) ∧ W.cell? ⟨g, 1, none⟩ = some (.int .i64 r.session) ∧ W.cell? ⟨g, 2, none⟩ = some (.int .i64 r.gone) ∧ W.cell? ⟨g, 3, none⟩ = some (.int .i64 r.added) ∧ W.cell? ⟨g, 4, none⟩ = some (.int .i64 r.same) ∧ W.cell? ⟨g, 5, none⟩ = some (.int .i64 r.other) ∧ W.cell? ⟨g, 6, none⟩ = some (.int .i64 r.cycle) ∧ W.cell? ⟨g, 7, none⟩ = some (.int .i64 r.full) from fun W h2 => ⟨cell_blk h2 0, cell_blk h2 1, cell_blk h2 2, cell_blk h2 3, cell_blk h2 4, cell_blk h2 5, cell_blk h2 6, cell_blk h2 7⟩)
        have HW4 := Lib.hid hgw
        clear hth hrs hu6 hng hnp hgw HX50 HX45 HB50 HB4 HX4 HT4
        refine wpF_region (fun W => W.cell? ⟨g, 0, none⟩ = some (.int .i64 r.err) ∧ W.cell? ⟨g, 1, none⟩ = some (.int .i64 r.session) ∧ W.cell? ⟨g, 2, none⟩ = some (.int .i64 r.gone) ∧ W.cell? ⟨g, 3, none⟩ = some (.int .i64 r.added) ∧ W.cell? ⟨g, 4, none⟩ = some (.int .i64 r.same) ∧ W.cell? ⟨g, 5, none⟩ = some (.int .i64 r.other) ∧ W.cell? ⟨g, 6, none⟩ = some (.int .i64 r.cycle) ∧ W.cell? ⟨g, 7, none⟩ = some (.int .i64 r.full)) (fun _ => True) 99 11 (by kernel_rfl) (by kernel_rfl) ?_
        rw [← hw5]
        clear hw5
        refine wpF_take0 (i := 0) (v := ?v1) rfl (by kernel_rfl) (by kernel_rfl) (by kernel_rfl) (fun _ _ _ h => h) (by kernel_rfl) (Or.inl ⟨by rfl, ?hy1⟩) (HS0.out _ HB5.out) (gone (by kernel_rfl)) ?rest1
        case hy1 => (intro W hSW; (try dsimp only at hSW); go_simp; (try with_reducible rfl))
        (try simp only [Act.put, List.setIfInBounds_toArray, List.set_cons_zero, List.set_cons_succ])
        refine wpF_take0 (i := 1) (v := ?v2) rfl (by kernel_rfl) (by kernel_rfl) (by kernel_rfl) (fun _ _ _ h => h) (by kernel_rfl) (Or.inl ⟨by rfl, ?hy2⟩) (HS0.out _ HB5.out) (gone (by kernel_rfl)) ?rest2
        case hy2 => (intro W hSW; (try dsimp only at hSW); go_simp; (try with_reducible rfl))
        (try simp only [Act.put, List.setIfInBounds_toArray, List.set_cons_zero, List.set_cons_succ])
        refine wpF_take0 (i := 2) (v := ?v3) rfl (by kernel_rfl) (by kernel_rfl) (by kernel_rfl) (fun _ _ _ h => h) (by kernel_rfl) (Or.inl ⟨by rfl, ?hy3⟩) (HS0.out _ HB5.out) (gone (by kernel_rfl)) ?rest3
        case hy3 => (intro W hSW; (try dsimp only at hSW); go_simp; (try with_reducible rfl))
        (try simp only [Act.put, List.setIfInBounds_toArray, List.set_cons_zero, List.set_cons_succ])
        refine wpF_take0 (i := 4) (v := ?v4) rfl (by kernel_rfl) (by kernel_rfl) (by kernel_rfl) (fun _ _ _ h => h) (by kernel_rfl) (Or.inl ⟨by rfl, ?hy4⟩) (HS0.out _ HB5.out) (gone (by kernel_rfl)) ?rest4
        case hy4 => (intro W hSW; (try dsimp only at hSW); go_simp; (try with_reducible rfl))
        (try simp only [Act.put, List.setIfInBounds_toArray, List.set_cons_zero, List.set_cons_succ])
        refine wpF_take0 (i := 5) (v := ?v5) rfl (by kernel_rfl) (by kernel_rfl) (by kernel_rfl) (fun _ _ _ h => h) (by kernel_rfl) (Or.inl ⟨by rfl, ?hy5⟩) (HS0.out _ HB5.out) (gone (by kernel_rfl)) ?rest5
        case hy5 => (intro W hSW; (try dsimp only at hSW); go_simp; (try with_reducible rfl))
        (try simp only [Act.put, List.setIfInBounds_toArray, List.set_cons_zero, List.set_cons_succ])
        refine wpF_take0 (i := 6) (v := ?v6) rfl (by kernel_rfl) (by kernel_rfl) (by kernel_rfl) (fun _ _ _ h => h) (by kernel_rfl) (Or.inl ⟨by rfl, ?hy6⟩) (HS0.out _ HB5.out) (gone (by kernel_rfl)) ?rest6
        case hy6 => (intro W hSW; (try dsimp only at hSW); go_simp; (try with_reducible rfl))
        (try simp only [Act.put, List.setIfInBounds_toArray, List.set_cons_zero, List.set_cons_succ])
        refine wpF_take0 (i := 7) (v := ?v7) rfl (by kernel_rfl) (by kernel_rfl) (by kernel_rfl) (fun _ _ _ h => h) (by kernel_rfl) (Or.inl ⟨by rfl, ?hy7⟩) (HS0.out _ HB5.out) (gone (by kernel_rfl)) ?rest7
        case hy7 => (intro W hSW; (try dsimp only at hSW); go_simp; (try with_reducible rfl))
        (try simp only [Act.put, List.setIfInBounds_toArray, List.set_cons_zero, List.set_cons_succ])
        refine wpF_take0 (i := 8) (v := ?v8) rfl (by kernel_rfl) (by kernel_rfl) (by kernel_rfl) (fun _ _ _ h => h) (by kernel_rfl) (Or.inl ⟨by rfl, ?hy8⟩) (HS0.out _ HB5.out) (gone (by kernel_rfl)) ?rest8
        case hy8 => (intro W hSW; (try dsimp only at hSW); go_simp; (try with_reducible rfl))
        (try simp only [Act.put, List.setIfInBounds_toArray, List.set_cons_zero, List.set_cons_succ])
        refine wpF_step (i := 3) (by kernel_rfl) rfl (fun K hK => ?_)
        go_simp
        refine (place_calls w5 p E L n HT5.out).mono ?_
        rintro e w' ⟨rfl, rfl⟩
        rw [HPL.out]
        refine hK.out _ _ (HS0.out _ HB5.out) (gone (by kernel_rfl)) ?_
        clear hK K
        (try simp only [Act.put, List.setIfInBounds_toArray, List.set_cons_zero, List.set_cons_succ])
        refine wpF_step (i := 9) (by kernel_rfl) rfl (fun K hK => ?_)
        go_simp
        refine hK.out _ _ (HS0.out _ HB5.out) (gone (by kernel_rfl)) ?_
        clear hK K
        (try simp only [Act.put, List.setIfInBounds_toArray, List.set_cons_zero, List.set_cons_succ])
        refine wpF_step (i := 10) (by kernel_rfl) rfl (fun K hK => ?_)
        refine wp_store_mid 47 (.tmp 57) (.tmp 56) rfl gb (k * 11) (seatC ⟨n, q, at0, r⟩) rfl rfl HTH.out (by kernel_rfl) (seatC_one _) ?_
        refine hK.out _ _ (HS0.out _ HB6.out) (gone (by kernel_rfl)) ?_
        clear hK K
        (try simp only [Act.put, List.setIfInBounds_toArray, List.set_cons_zero, List.set_cons_succ])
        refine wpF_done (by kernel_rfl) ?_ _
        refine NoPanic.normal ?_
        obtain ⟨w6, hw6⟩ : ∃ W, W = w5.setCells gb (k * 11) (seatC ⟨n, q, at0, r⟩).toList := ⟨_, rfl⟩
        rw [← hw6] at HB6 HBP6 HRS6 HX6
        rw [← hw6]
        clear hw6
        have HSL := Lib.hid (show (L.set k ⟨n, q, at0, r⟩).length = L.length from List.length_set)
        have HST := Lib.hid (RTab.set HBP6.out HRS6.out (fun k hk he => by have := HE.out k he; have := HW4.out; omega) HEP.out)
        have y0 : w6.cell? ⟨p, 0, none⟩ = some (.slice A L.length c) := cell_blk HBP6.out 0
        have f0 : w6.frozen? ⟨p, 0, none⟩ = false := frozen_blk HBP6.out 0
        go_wp2_with fail
        go_ret
        rw [HF.out]
        have hst := HST.out
        rw [HSET.out] at hst
        exact ⟨rfl, hst.1, (HX6.out.upd _).trans hst.2⟩
    · have HF := Lib.hid (show keepS L n q at0 r = (L, 81) by rw [HK.out, if_neg (by simp), if_pos rfl])
      go_wp2_with fail
      go_ret
      rw [HF.out]
      exact ⟨rfl, HT3.out, HX3.out.upd _⟩
  · have HF := Lib.hid (show keepS L n q at0 r = (L, a3) by rw [HK.out, if_pos h0])
    have hb : (a3 != 0) = true := bne_iff_ne.2 h0
    go_wp2_with fail
    go_ret
    rw [HF.out]
    exact ⟨rfl, HT3.out, HX3.out.upd _⟩
end Go.Proofs.Ytkedmpppfejofaa
set_option linter.unusedVariables false
set_option linter.unusedSimpArgs false
namespace Go.Proofs.Ytkedmpppfejofaa
open Go.RowKit

/-- Numbers' bytes, one behind the other. -/
def seqB (l : List Int) : List UInt8 := l.flatMap fun n => digs n.toNat
def imgT (L : List SeatS) : List UInt8 := L.flatMap fun s => seqB s.nums
def imgL (L : List SeatS) : List UInt8 := digs L.length ++ imgT L
theorem seqB_snoc (l : List Int) (n : Int) : seqB (l ++ [n]) = seqB l ++ digs n.toNat := by simp [seqB]
theorem imgT_snoc (L : List SeatS) (s : SeatS) : imgT (L ++ [s]) = imgT L ++ seqB s.nums := by simp [imgT]
theorem seqB_take (l : List Int) (k : Nat) (hk : k < l.length) : seqB (l.take (k + 1)) = seqB (l.take k) ++ digs l[k].toNat := by
  rw [List.take_succ_eq_append_getElem hk, seqB_snoc]
theorem imgT_take (L : List SeatS) (k : Nat) (hk : k < L.length) : imgT (L.take (k + 1)) = imgT (L.take k) ++ seqB L[k].nums := by
  rw [List.take_succ_eq_append_getElem hk, imgT_snoc]
theorem seqB_len : ∀ l : List Int, (∀ n ∈ l, I64 n) → (seqB l).length ≤ 9 * l.length
  | [], _ => by simp [seqB]
  | n :: l, h => by
    have h1 := h n (List.mem_cons_self ..)
    have h2 := (digs_len n.toNat (by have := h1.2; omega)).2
    have h3 := seqB_len l (fun m hm => h m (List.mem_cons_of_mem _ hm))
    have e : seqB (n :: l) = digs n.toNat ++ seqB l := by simp [seqB]
    rw [e, List.length_append, List.length_cons]
    omega
theorem SeatI.nums {s : SeatS} (h : SeatI s) : ∀ n ∈ s.nums, I64 n := by
  obtain ⟨h1, h2, h3, ⟨g1, g2, g3, g4, g5, g6, g7, g8⟩⟩ := h
  intro n hn
  unfold SeatS.nums ReplyS.nums at hn
  simp only [List.mem_cons, List.not_mem_nil, or_false] at hn
  rcases hn with rfl | rfl | rfl | rfl | rfl | rfl | rfl | rfl | rfl | rfl | rfl <;> assumption
theorem nums_len (s : SeatS) : s.nums.length = 11 := rfl
theorem imgT_len : ∀ L : List SeatS, (∀ s ∈ L, SeatI s) → (imgT L).length ≤ 99 * L.length
  | [], _ => by simp [imgT]
  | s :: L, h => by
    have h1 := seqB_len s.nums (h s (List.mem_cons_self ..)).nums
    have h2 := imgT_len L (fun m hm => h m (List.mem_cons_of_mem _ hm))
    have e : imgT (s :: L) = seqB s.nums ++ imgT L := by simp [imgT]
    rw [nums_len] at h1
    rw [e, List.length_append, List.length_cons]
    omega
set_option maxRecDepth 100000 in
set_option maxHeartbeats 4000000 in
theorem Image_calls (w : World) (p b : Nat) (L : List SeatS) (hok : TabOk L) (h : TabS w p b L) :
    Calls Try.prog 22 #[.pointer (some ⟨p, 0, none⟩)] w fun e w' => ∃ v, e = .returned v ∧ Ow kByte 5 w' w.heap.size (w.heap.size ≤ ·) v (imgL L) ∧ Ext w w' := by
  have HT := Lib.hid h
  have HOK := Lib.hid hok
  have hc : w.cell? ⟨p, 0, none⟩ = some (.map (some b)) := cell_blk h.1 0
  have hsz := fun ty => h.2.1.size ty
  have hl8 := hok.len
  clear h hok
  go_enter Try.func22, Try.ntmps22
  go_wp2_with fail
  refine (made_calls w p b L HT.out).mono ?_
  rintro e w' ⟨rfl, rfl⟩
  go_wp2_with fail
  refine (Number_calls w (fun _ => True) _ [] (L.length : Int) (Rs.nil _ _ _) ⟨by omega, by omega⟩ (by simp)).mono ?_
  rintro e w1 ⟨v1, rfl, ho, hx⟩
  rw [List.nil_append, Int.toNat_natCast] at ho
  have HO1 := Lib.hid ho
  have HX1 := Lib.hid hx
  have HD := Lib.hid (digs_len L.length (by omega)).2
  clear ho hx hc hsz
  go_wp2_with fail
  refine (Seats_calls w1 p b L HOK.out.rise HOK.out.i HOK.out.len1 (HT.out.ext HX1.out)).mono ?_
  rintro e w2 ⟨v, rfl, ho, hx⟩
  have HO2 := Lib.hid (HO1.out.ext hx)
  have HX2 := Lib.hid (HX1.out.trans hx)
  obtain ⟨A, c, rfl, -, -, -, hrow⟩ := ho.rs
  have HR := Lib.hid hrow.bound
  clear ho hx hrow HO1 HX1
  go_wp2_with fail
  go_loopw [3, 20] (fun v i wr => ∃ k : Nat, k ≤ L.length ∧ i = .int .i64 k ∧ Hid (Ow kByte 5 wr w.heap.size (w.heap.size ≤ ·) v (digs L.length ++ imgT (L.take k))) ∧ Hid (Ext w2 wr)) (fun _ i _ => L.length - (intOf i).toNat)
  case atStart => exact ⟨0, Nat.zero_le _, rfl, Lib.hid (by simpa [imgT] using HO2.out), Lib.hid (Ext.refl _)⟩
  case round =>
    clear HO2
    obtain ⟨k, hk, rfl, HO, HX⟩ := hrel
    by_cases hlt : k < L.length
    · obtain ⟨ad, rfl, -, -, hi, hx⟩ := (HR.out.keep (w' := wr) fun b hb _ => HX.out.block b hb.2).seat hlt
      have HTK := Lib.hid (imgT_take L k hlt)
      have HTL := Lib.hid (show (imgT (L.take k)).length ≤ 1000 by
        have h1 := imgT_len (L.take k) (fun s hs => HOK.out.i s (List.mem_of_mem_take hs))
        rw [List.length_take] at h1
        omega)
      have HI := Lib.hid hi
      obtain ⟨x0, x1, x2, x3, x4, x5, x6, x7, x8, x9, x10⟩ := seat_at hx
      generalize L[k] = s at *
      have HNL := Lib.hid (seqB_len s.nums HI.out.nums)
      clear hx hi
      go_upto_region 7 with fail
      obtain ⟨w5, hw5⟩ : ∃ w5, w5 = wr.alloc (.cells (seatC s) 47) := ⟨_, rfl⟩
      obtain ⟨g, hg⟩ : ∃ g, g = wr.heap.size := ⟨_, rfl⟩
      have hx5 : Ext wr w5 := by rw [hw5]; exact (Ext.refl _).alloc _
      have HX5 := Lib.hid (HX.out.trans hx5)
      have HO5 := Lib.hid (HO.out.ext hx5)
      have HD5 := Lib.hid (show w5.heap[g]? = some (.cells (seatC s) 47 (0, 0)) by rw [hw5]; exact heap_new wr g hg.symm _)
      unfold seatC at hw5
      rw [← hw5, ← hg]
      clear hw5 hg hx5 x0 x1 x2 x3 x4 x5 x6 x7 x8 x9 x10 HX HO
      go_wp2_with fail
      refine (numbers_calls w5 g s HD5.out).mono ?_
      rintro e w6 ⟨q, hq, rfl, he, hptr, hx⟩
      have HX6 := Lib.hid (HX5.out.trans hx)
      have HO6 := Lib.hid (HO5.out.ext hx)
      have HD6 := Lib.hid (blk_ext HD5.out hx)
      have HE6 := Lib.hid he
      have HQ6 := Lib.hid hptr
      generalize w5.heap.size = ee at HE6 HQ6
      clear hq he hptr hx HX5 HO5 HD5
      have HJ := Lib.hid hlt
      clear hlt
      go_wp2_with fail
      go_loopw [3, 26] (fun v i wi => ∃ j : Nat, j ≤ 11 ∧ i = .int .i64 j ∧ Hid (Ow kByte 5 wi w.heap.size (w.heap.size ≤ ·) v (digs L.length ++ imgT (L.take k) ++ seqB (s.nums.take j))) ∧ Hid (Ext w6 wi)) (fun _ i _ => 11 - (intOf i).toNat)
      case atStart => exact ⟨0, Nat.zero_le _, rfl, Lib.hid (by simpa [seqB] using HO6.out), Lib.hid (Ext.refl _)⟩
      case round =>
        clear HO6
        obtain ⟨j, hj, rfl, HO, HX⟩ := hrel
        by_cases hlt : j < 11
        · obtain ⟨b2, i, hc1, hc2⟩ := ptr_at (blk_ext HD6.out HX.out) (blk_ext HE6.out HX.out) (blk_ext HQ6.out HX.out) hlt
          have hjl : j < s.nums.length := hlt
          have HNT := Lib.hid (seqB_take s.nums j hjl)
          have HNI := Lib.hid (HI.out.nums _ (List.getElem_mem hjl))
          have HNTL := Lib.hid (show (seqB (s.nums.take j)).length ≤ 99 by
            have h1 := seqB_len (s.nums.take j) (fun n hn => HI.out.nums n (List.mem_of_mem_take hn))
            rw [List.length_take] at h1
            omega)
          generalize s.nums[j] = x at *
          clear hjl
          go_wp2_with fail
          refine (Number_calls _ _ _ _ x HO.out.rs HNI.out (by
            rw [List.length_append, List.length_append]
            have h1 := HD.out
            have h2 := HTL.out
            have h3 := HNTL.out
            omega)).mono ?_
          rintro e w7 ⟨v7, rfl, ho7, hx7⟩
          rw [List.append_assoc, ← HNT.out] at ho7
          have hxx := HX6.out.trans HX.out
          have hle := (HX2.out.trans hxx).le
          have HO7 := Lib.hid ((ho7.lower hle).mono fun k hk => Nat.le_trans hle hk)
          have HX7 := Lib.hid (HX.out.trans hx7)
          clear ho7 hx7 hc1 hc2 hxx hle
          go_wp2_with fail
          go_roundw
          case rel => exact ⟨j + 1, by omega, by go_num, HO7, HX7⟩
          case measure => simp [intOf]; omega
        · obtain rfl : j = 11 := by omega
          have ho := HO.out
          rw [show s.nums.take 11 = s.nums from rfl, List.append_assoc, ← HTK.out] at ho
          have HO8 := Lib.hid ho
          have HX8 := Lib.hid (HX6.out.trans HX.out)
          have hjj := HJ.out
          clear ho HO
          go_wp2_with fail
          go_roundw
          case rel => exact ⟨k + 1, by omega, by go_num, HO8, HX8⟩
          case measure => simp [intOf]; omega
    · obtain rfl : k = L.length := by omega
      have ho := HO.out
      rw [List.take_length] at ho
      have HO8 := Lib.hid (show Ow kByte 5 wr w.heap.size (w.heap.size ≤ ·) _ (imgL L) from ho)
      clear ho HO
      go_wp2_with fail
      go_ret
      exact ⟨_, rfl, HO8.out, HX2.out.trans HX.out⟩
end Go.Proofs.Ytkedmpppfejofaa
set_option linter.unusedVariables false
set_option linter.unusedSimpArgs false
namespace Go.Proofs.Ytkedmpppfejofaa
open Go.RowKit

theorem wpF_two {P : Program} {md : Region.Mode} {ops : Array Oper} {Q : Exit → Act → World → Prop} {S0 S1 : World → Prop} {f : Nat} {i j : Nat} {o o' : Oper} {tl tl' : List Oper} {fuel : Nat} {listed : Array Bool} {a : Act} {w : World} (hr : Region.ready md ops listed = [i, j]) (ho : ops.toList.drop i = o :: tl) (ho' : ops.toList.drop j = o' :: tl')
    (h : ∀ K' : Act → World → Prop, Hid (∀ a w, S0 w → ((listed.setIfInBounds i true).getD f true = false → S1 w) → wpF P md ops Q S0 S1 f fuel (listed.setIfInBounds i true) a w → K' a w) → if Region.wanted o (yielded ops a.tmps) = true then Oper.wp P o a w K' Q else K' (a.put o.dst undef) w)
    (h' : ∀ K' : Act → World → Prop, Hid (∀ a w, S0 w → ((listed.setIfInBounds j true).getD f true = false → S1 w) → wpF P md ops Q S0 S1 f fuel (listed.setIfInBounds j true) a w → K' a w) → if Region.wanted o' (yielded ops a.tmps) = true then Oper.wp P o' a w K' Q else K' (a.put o'.dst undef) w) :
    wpF P md ops Q S0 S1 f (fuel + 1) listed a w := by
  refine ⟨fun h0 => (by rw [hr] at h0; cases h0), fun k hk => ?_⟩
  rw [hr] at hk
  rcases List.mem_cons.1 hk with rfl | hk
  · exact wpOp_step (op_at ho) fun K' hK => h K' (Lib.hid fun a w h0 h1 h2 => hK a w ⟨⟨h0, h1⟩, h2⟩)
  · obtain rfl : k = j := by simpa using hk
    exact wpOp_step (op_at ho') fun K' hK => h' K' (Lib.hid fun a w h0 h1 h2 => hK a w ⟨⟨h0, h1⟩, h2⟩)
end Go.Proofs.Ytkedmpppfejofaa
set_option linter.unusedVariables false
set_option linter.unusedSimpArgs false
namespace Go.Proofs.Ytkedmpppfejofaa
open Go.RowKit

theorem step_append_Rs {P : Program} {ops : Array Oper} {o : Oper} {a : Act} {w : World} {K : Act → World → Prop} {Q : Exit → Act → World → Prop} {E : Prop} {α : Type} (d : Kd α) (D : Nat) (hD : o.dst = some D) (hgd : o.guard = none) (s y : Operand) (t e : TypeId) {z : Value} {bytes : Nat}
    (ho : o.op = .call { callee := .builtin .append, args := #[s, y], argTypes := #[t, t] }) (hE : ElemT P t e z d.sz bytes)
    (base : Nat) (v x : Value) (xs ys : List α) (S T : Nat → Prop) (hs : a.eval s = v) (hx : a.eval y = x) (hown : Ow d e w base S v xs) (hr : Rs d w T x ys)
    (hST : ∀ y cs, d.K w T y cs → d.K w (fun b => S b ∧ some b ≠ v.ownBlock) y cs) (hnew : ∀ b, w.heap.size ≤ b → S b)
    (hbytes : (xs.length + ys.length) * bytes ≤ 140737488355328) (hbase : base ≤ w.heap.size)
    (h : ∀ v' w', Ow d e w' base S v' (xs ++ ys) → w.grownBy w' v.ownBlock → (v'.ownBlock = v.ownBlock ∨ v'.ownBlock = some w.heap.size) → K (a.put (some D) v') w') :
    if Region.wanted o (yielded ops a.tmps) = true then Oper.wp P o a w K Q else E := by
  have hw : Region.wanted o (yielded ops a.tmps) = true := by simp [Region.wanted, hgd]
  rw [if_pos hw]
  obtain ⟨i, hi, hz0, hz1, hz2⟩ := info_parts hE.info
  obtain ⟨v', w', hr, h2, h3, h4⟩ := run_append_Rs (P := P) (w := w) (d := d) base t o.type e i z bytes hE.under hi hz0 hz1 hz2 hE.cells hE.pos v x xs ys S T hown hr hST hnew hbytes hE.pos' hbase
  unfold Oper.wp execOp
  simp only [ho, resolve, invoke, builtin, Sem.run_bind, Sem.run_pure, Result.andThen_ok, List.map_toArray, List.map_cons, List.map_nil, hs, hx, hr]
  show K (a.put o.dst v') w'
  rw [hD]
  exact h v' w' h2 h3 h4
end Go.Proofs.Ytkedmpppfejofaa
