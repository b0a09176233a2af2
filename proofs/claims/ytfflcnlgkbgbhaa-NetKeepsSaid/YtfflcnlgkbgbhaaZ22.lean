/-
  Texts of this claim, put together: BagNo, NetNobody.
-/
import Derived.Test.YtfflcnlgkbgbhaaZ14
set_option linter.unusedVariables false
set_option linter.unusedSimpArgs false
namespace Go.Proofs.Ytfflcnlgkbgbhaa
open Go.RowKit

/-- No call made it. -/
def NetX (w : World) (v : Value) : Prop := v = .pointer none ∨ ∃ g, v = .pointer (some ⟨g, 0, none⟩) ∧ w.heap[g]? = some (.cells #[.slice none 0 0, .int .i64 0, .bool false] 62 (0, 0))
theorem NetX.ext {w w' : World} {v : Value} (h : NetX w v) (he : Ext w w') : NetX w' v := by
  rcases h with rfl | ⟨g, rfl, hb⟩
  · exact .inl rfl
  · exact .inr ⟨g, rfl, blk_ext hb he⟩

set_option maxHeartbeats 400000 in
theorem findX_calls (w : World) (v : Value) (n : Int) (h : NetX w v) : Calls Try.prog 60 #[v, .int .i64 n] w fun e w' => e = .returned (.tuple #[.int .i64 0, .int .i64 6]) ∧ w = w' := by
  rcases h with rfl | ⟨g, rfl, hb⟩
  · go_enter Try.func60, Try.ntmps60
    go_wp2_with fail
    go_ret2
    exact ⟨rfl, rfl⟩
  · have hc : w.cell? ⟨g, 2, none⟩ = some (.bool false) := cell_blk hb 2
    clear hb
    go_enter Try.func60, Try.ntmps60
    go_wp2_with fail
    go_ret2
    exact ⟨rfl, rfl⟩
set_option maxHeartbeats 400000 in
theorem LoseX_calls (w : World) (v : Value) (n : Int) (h : NetX w v) : Calls Try.prog 26 #[v, .int .i64 n] w fun e w' => e = .returned (.int .i64 6) ∧ w = w' := by
  have hv : ∃ a, v = .pointer a := by rcases h with rfl | ⟨g, rfl, _⟩ <;> exact ⟨_, rfl⟩
  have H := Lib.hid h
  obtain ⟨a, rfl⟩ := hv
  clear h
  go_enter Try.func26, Try.ntmps26
  go_wp2_with fail
  refine (findX_calls w _ n H.out).mono ?_
  rintro e w' ⟨rfl, rfl⟩
  go_wp2_with fail
  go_ret
  exact ⟨rfl, rfl⟩
set_option maxRecDepth 1000000 in
set_option maxHeartbeats 1000000 in
theorem PeekX_calls (w : World) (v : Value) (n : Int) (h : NetX w v) : Calls Try.prog 22 #[v, .int .i64 n] w fun e w' => e = .returned (.tuple #[.agg (msgC zeroM (.slice none 0 0) (.slice none 0 0) (.slice none 0 0)), .int .i64 6]) ∧ Ext w w' := by
  have hv : ∃ a, v = .pointer a := by rcases h with rfl | ⟨g, rfl, _⟩ <;> exact ⟨_, rfl⟩
  have H := Lib.hid h
  obtain ⟨a, rfl⟩ := hv
  clear h
  go_enter Try.func22, Try.ntmps22
  go_wp2_with fail
  obtain ⟨w1, hw1⟩ : ∃ w1, w1 = w.alloc (.cells (msgC zeroM (.slice none 0 0) (.slice none 0 0) (.slice none 0 0)) 26) := ⟨_, rfl⟩
  have HB1 := Lib.hid (show w1.heap[w.heap.size]? = some (.cells (msgC zeroM (.slice none 0 0) (.slice none 0 0) (.slice none 0 0)) 26 (0, 0)) by rw [hw1]; exact heap_new w _ rfl _)
  have HX1 := Lib.hid (show Ext w w1 by rw [hw1]; exact (Ext.refl w).alloc _)
  unfold msgC zeroM at hw1
  rw [← hw1]
  clear hw1
  refine (findX_calls w1 _ n (H.out.ext HX1.out)).mono ?_
  rintro e w' ⟨rfl, rfl⟩
  obtain ⟨⟨x0, x1, x2, x3, x4, x5, x6, x7, x8, x9, x10, x11, x12⟩, ⟨y0, y1, y2, y3, y4, y5, y6, y7, y8, y9, y10, y11, y12⟩⟩ := msg_cells HB1.out
  simp only [zeroM] at x0 x1 x2 x3 x4 x5 x6 x7 x8 x9
  have HSM := Lib.hid (setM_heap w1 w.heap.size zeroM (.slice none 0 0) (.slice none 0 0) (.slice none 0 0) HB1.out)
  have HXM := Lib.hid ((setM_upd w1 w.heap.size zeroM (.slice none 0 0) (.slice none 0 0) (.slice none 0 0)).ext HX1.out (fun k hk => by have : k = w.heap.size := hk; omega))
  go_wp2_with fail
  (try simp only [Exit.inBlock, Exit.then])
  refine bodyPost_ret (results_msg rfl _ _ _ _ _ _ _ _ _ rfl HSM.out) rfl ?_
  exact ⟨rfl, HXM.out⟩
set_option maxRecDepth 1000000 in
set_option maxHeartbeats 1000000 in
theorem TakeX_calls (w : World) (v : Value) (n : Int) (h : NetX w v) : Calls Try.prog 24 #[v, .int .i64 n] w fun e w' => e = .returned (.tuple #[.agg (msgC zeroM (.slice none 0 0) (.slice none 0 0) (.slice none 0 0)), .int .i64 6]) ∧ Ext w w' := by
  have hv : ∃ a, v = .pointer a := by rcases h with rfl | ⟨g, rfl, _⟩ <;> exact ⟨_, rfl⟩
  have H := Lib.hid h
  obtain ⟨a, rfl⟩ := hv
  clear h
  go_enter Try.func24, Try.ntmps24
  go_wp2_with fail
  obtain ⟨w1, hw1⟩ : ∃ w1, w1 = w.alloc (.cells (msgC zeroM (.slice none 0 0) (.slice none 0 0) (.slice none 0 0)) 26) := ⟨_, rfl⟩
  have HB1 := Lib.hid (show w1.heap[w.heap.size]? = some (.cells (msgC zeroM (.slice none 0 0) (.slice none 0 0) (.slice none 0 0)) 26 (0, 0)) by rw [hw1]; exact heap_new w _ rfl _)
  have HX1 := Lib.hid (show Ext w w1 by rw [hw1]; exact (Ext.refl w).alloc _)
  unfold msgC zeroM at hw1
  rw [← hw1]
  clear hw1
  refine (PeekX_calls w1 _ n (H.out.ext HX1.out)).mono ?_
  rintro e w2 ⟨rfl, hx⟩
  have HB2 := Lib.hid (blk_ext HB1.out hx)
  have HX2 := Lib.hid (HX1.out.trans hx)
  clear hx HB1 HX1
  dsimp only [msgC, zeroM]
  go_upto_region 2 with fail
  obtain ⟨w3, hw3⟩ : ∃ w3, w3 = w2.alloc (.cells (msgC zeroM (.slice none 0 0) (.slice none 0 0) (.slice none 0 0)) 26) := ⟨_, rfl⟩
  have hc3 : w3.heap[w2.heap.size]? = some (.cells (msgC zeroM (.slice none 0 0) (.slice none 0 0) (.slice none 0 0)) 26 (0, 0)) := by rw [hw3]; exact heap_new w2 _ rfl _
  have hx : Ext w2 w3 := by rw [hw3]; exact (Ext.refl w2).alloc _
  have HB3 := Lib.hid (blk_ext HB2.out hx)
  have HX3 := Lib.hid (HX2.out.trans hx)
  unfold msgC zeroM at hw3
  rw [← hw3]
  obtain ⟨⟨z0, z1, z2, z3, z4, z5, z6, z7, z8, z9, z10, z11, z12⟩, -⟩ := msg_cells hc3
  obtain ⟨⟨x0, x1, x2, x3, x4, x5, x6, x7, x8, x9, x10, x11, x12⟩, ⟨y0, y1, y2, y3, y4, y5, y6, y7, y8, y9, y10, y11, y12⟩⟩ := msg_cells HB3.out
  simp only [zeroM] at x0 x1 x2 x3 x4 x5 x6 x7 x8 x9 z0 z1 z2 z3 z4 z5 z6 z7 z8 z9
  have HSM := Lib.hid (setM_heap w3 w.heap.size zeroM (.slice none 0 0) (.slice none 0 0) (.slice none 0 0) HB3.out)
  have HXM := Lib.hid ((setM_upd w3 w.heap.size zeroM (.slice none 0 0) (.slice none 0 0) (.slice none 0 0)).ext HX3.out (fun k hk => by have : k = w.heap.size := hk; omega))
  clear hw3 hx hc3 HX2 HB2
  go_wp2_with fail
  (try simp only [Exit.inBlock, Exit.then])
  refine bodyPost_ret (results_msg rfl _ _ _ _ _ _ _ _ _ rfl HSM.out) rfl ?_
  exact ⟨rfl, HXM.out⟩
set_option maxRecDepth 1000000 in
set_option maxHeartbeats 1000000 in
theorem DoubleX_calls (w : World) (v : Value) (n : Int) (h : NetX w v) : Calls Try.prog 28 #[v, .int .i64 n] w fun e w' => e = .returned (.int .i64 6) ∧ Ext w w' := by
  have hv : ∃ a, v = .pointer a := by rcases h with rfl | ⟨g, rfl, _⟩ <;> exact ⟨_, rfl⟩
  have H := Lib.hid h
  obtain ⟨a, rfl⟩ := hv
  clear h
  go_enter Try.func28, Try.ntmps28
  go_wp2_with fail
  refine (PeekX_calls w _ n H.out).mono ?_
  rintro e w2 ⟨rfl, hx⟩
  have HX2 := Lib.hid hx
  clear hx
  dsimp only [msgC, zeroM]
  go_wp2_with fail
  go_ret
  exact ⟨rfl, HX2.out.alloc _⟩
set_option maxHeartbeats 400000 in
theorem SendX_calls (w : World) (v u : Value) (h : NetX w v) : Calls Try.prog 30 #[v, u] w fun e w' => e = .returned (.int .i64 0) ∧ w = w' := by
  rcases h with rfl | ⟨g, rfl, hb⟩
  · go_enter Try.func30, Try.ntmps30
    go_wp2_with fail
    go_ret
    exact ⟨rfl, rfl⟩
  · have hc : w.cell? ⟨g, 2, none⟩ = some (.bool false) := cell_blk hb 2
    clear hb
    go_enter Try.func30, Try.ntmps30
    go_wp2_with fail
    go_ret
    exact ⟨rfl, rfl⟩
set_option maxHeartbeats 400000 in
theorem ListX_calls (w : World) (v : Value) (h : NetX w v) : Calls Try.prog 33 #[v] w fun e w' => e = .returned (.slice none 0 0) ∧ w = w' := by
  rcases h with rfl | ⟨g, rfl, hb⟩
  · go_enter Try.func33, Try.ntmps33
    go_wp2_with fail
    go_ret
    exact ⟨rfl, rfl⟩
  · have hc : w.cell? ⟨g, 0, none⟩ = some (.slice none 0 0) := cell_blk hb 0
    clear hb
    go_enter Try.func33, Try.ntmps33
    go_wp2_with fail
    go_loop [3, 14] (fun s i => s = .slice none 0 0 ∧ i = .int .i64 0) (fun _ _ => 0)
    case atStart => exact ⟨rfl, rfl⟩
    case round =>
      obtain ⟨rfl, rfl⟩ := hrel
      go_wp2_with fail
      go_ret
      exact ⟨rfl, rfl⟩

/-! ### calls -/
structure DoS where
  op : Int
  id : Int
  l : List MsgS
def kDo : Kd DoS := Kd.via (fun d => (d.op, d.id, d.l, ())) (Kd.pair kInt (Kd.pair kInt (Kd.pair (kSlice kMsg) Kd.unit)))
theorem oMsgs : Opens Try.prog 28 (kSlice kMsg) := opens_slice Try.underlying28 (by kernel_rfl) oMsg (by decide) (of_decide_eq_true (by kernel_rfl))
theorem oDo : Opens Try.prog 52 kDo := opens_via _ (fun a => ⟨a.1, a.2.1, a.2.2.1⟩) (fun _ => rfl)
  (opens_struct Try.underlying52 (by kernel_rfl) (opensF_cons rfl oInt (opensF_cons rfl oInt (opensF_cons rfl oMsgs opensF_nil))))
theorem kDo_iff {w : World} {S : Nat → Prop} {d : DoS} {cs : List Value} : kDo.K w S d cs ↔ ∃ vl, cs = [.int .i64 d.op, .int .i64 d.id, vl] ∧ Rs kMsg w S vl d.l ∧ I64 d.op ∧ I64 d.id := by
  constructor
  · rintro ⟨_, _, rfl, ⟨rfl, h0⟩, _, _, rfl, ⟨rfl, h1⟩, _, _, rfl, ⟨vd, rfl, hd⟩, rfl⟩
    exact ⟨vd, rfl, hd, h0, h1⟩
  · rintro ⟨vd, rfl, hd, h0, h1⟩
    exact ⟨_, _, rfl, ⟨rfl, h0⟩, _, _, rfl, ⟨rfl, h1⟩, _, _, rfl, ⟨vd, rfl, hd⟩, rfl⟩
theorem Row.do_ {w : World} {S : Nat → Prop} {A : Option Addr} {ds : List DoS} (h : Row kDo w S A ds) {j : Nat} (hj : j < ds.length) : ∃ ad Al cl, A = some ad ∧ w.cell? (ad.add (j * 3)) = some (.int .i64 ds[j].op) ∧ w.cell? ⟨(ad.add (j * 3)).block, (ad.add (j * 3)).off + 1, none⟩ = some (.int .i64 ds[j].id) ∧
    w.cell? ⟨(ad.add (j * 3)).block, (ad.add (j * 3)).off + 2, none⟩ = some (.slice Al ds[j].l.length cl) ∧ Rs kMsg w S (.slice Al ds[j].l.length cl) ds[j].l ∧ I64 ds[j].op ∧ I64 ds[j].id := by
  obtain ⟨ad, cs, rfl, _, _, hK, hc⟩ := h.get hj
  obtain ⟨vl, rfl, hd, h0, h1⟩ := kDo_iff.1 hK
  obtain ⟨Al, cl, e, _⟩ := id hd
  subst e
  refine ⟨ad, Al, cl, rfl, hc 0 _ rfl, ?_, ?_, hd, h0, h1⟩
  · have h := hc 1 _ rfl
    rw [← h, ← add_of_add]; rfl
  · have h := hc 2 _ rfl
    rw [← h, ← add_of_add]; rfl
def LightD (d : DoS) : Prop := d.l.length ≤ 65536 ∧ ∀ m ∈ d.l, LightM m

def ShortP (l : List DoS) (w : World) (e : Ending) (w' : World) : Prop := (∃ b : Bool, e = .returned (.bool b) ∧ (b = true → l.length ≤ 400 ∧ ∀ d ∈ l, LightD d)) ∧ ∃ n, w' = w.drewN n
set_option maxRecDepth 100000 in
set_option maxHeartbeats 4000000 in
theorem short_calls (w : World) (S : Nat → Prop) (v : Value) (l : List DoS) (hr : Rs kDo w S v l) :
    Calls Try.prog 20 #[v] w (ShortP l w) := by
  have HR := Lib.hid hr
  obtain ⟨A, c, rfl, hl, hc, hz, _⟩ := hr
  go_enter Try.func20, Try.ntmps20
  go_wp2_with fail
  go_loopw [3, 4] (fun sv i wr => ∃ (k : Nat) (z : Int), k ≤ l.length ∧ i = .int .i64 k ∧ sv = .int .i64 z ∧ 0 ≤ z ∧ z ≤ 300000 ∧ k ≤ 401 ∧ Hid (z ≤ 65536 → ∀ d ∈ l.take k, LightD d) ∧ Hid (∃ n, wr = w.drewN n)) (fun _ i _ => l.length - (intOf i).toNat)
  case atStart => exact ⟨0, 0, Nat.zero_le _, rfl, rfl, by omega, by omega, by omega, Lib.hid (fun _ d hd => by simp at hd), Lib.hid ⟨0, rfl⟩⟩
  case round =>
    obtain ⟨k, z, hk, rfl, rfl, hz0, hz3, hk4, HOK, HW⟩ := hrel
    obtain ⟨n0, rfl⟩ := HW.out
    by_cases hgo : k < l.length ∧ k ≤ 400 ∧ z ≤ 65536
    · obtain ⟨hlt, hk400, hz6⟩ := hgo
      obtain ⟨ad, Al, cl, rfl, a0, a1, a2, hrl, _, _⟩ := HR.out.shape.2.2.2.2.do_ hlt
      have HTK := Lib.hid (fun h1 h2 => mem_take_succ (P := LightD) hlt h1 h2)
      have HRL := Lib.hid hrl
      have HLD := Lib.hid (show LightD l[k] ↔ (l[k].l.length ≤ 65536 ∧ ∀ m ∈ l[k].l, LightM m) from Iff.rfl)
      generalize l[k].l = ml at a2 HRL HLD
      clear hrl a0 a1
      go_wp2_with fail
      refine (weight_calls _ S _ ml (HRL.out.drewN n0)).mono ?_
      rintro e w2 ⟨⟨y, rfl, hy0, hy2, hyl⟩, n2, rfl⟩
      have HYL := Lib.hid hyl
      clear hyl a2
      go_wp2_with fail
      go_roundw
      case rel => exact ⟨k + 1, z + y, by omega, by go_num, rfl, by omega, by omega, by omega, Lib.hid (fun h => HTK.out (HOK.out hz6) (HLD.out.2 (HYL.out (by omega)))), Lib.hid ⟨_, rfl⟩⟩
      case measure => simp [intOf]; omega
    · have HNO := Lib.hid hgo
      by_cases hlt : k < l.length
      · by_cases hk400 : k ≤ 400
        · have hz6 : ¬ z ≤ 65536 := fun h => hgo ⟨hlt, hk400, h⟩
          clear hgo
          by_cases h4 : l.length ≤ 400
          all_goals
            go_wp2_with fail
            go_ret
            exact ⟨⟨_, rfl, fun h => by cases h⟩, _, rfl⟩
        · clear hgo
          have h4 : ¬ l.length ≤ 400 := by omega
          go_wp2_with fail
          go_ret
          exact ⟨⟨_, rfl, fun h => by cases h⟩, _, rfl⟩
      · obtain rfl : k = l.length := by omega
        clear hgo
        by_cases h4 : l.length ≤ 400
        · by_cases hz6 : z ≤ 65536
          · have HF := Lib.hid (show ∀ d ∈ l, LightD d by have h := HOK.out hz6; rw [List.take_length] at h; exact h)
            clear HOK hlt
            go_wp2_with fail
            go_ret
            exact ⟨⟨_, rfl, fun _ => ⟨h4, HF.out⟩⟩, _, rfl⟩
          · clear hlt
            go_wp2_with fail
            go_ret
            exact ⟨⟨_, rfl, fun h => by cases h⟩, _, rfl⟩
        · clear hlt
          go_wp2_with fail
          go_ret
          exact ⟨⟨_, rfl, fun h => by cases h⟩, _, rfl⟩
end Go.Proofs.Ytfflcnlgkbgbhaa
set_option linter.unusedVariables false
set_option linter.unusedSimpArgs false
namespace Go.Proofs.Ytfflcnlgkbgbhaa
open Go.RowKit

set_option maxRecDepth 1000000 in
set_option maxHeartbeats 16000000 in
theorem NetNobody_walk (w : World) (cs : Array Value) (k : DoS) (hk : kDo.K w (· < w.heap.size) k cs.toList) :
    Calls Try.prog 8 #[.agg cs] w fun e w' => e = .returned (.bool true) ∧ Ext w w' := by
  obtain ⟨vl, e, hl, hop, hid⟩ := kDo_iff.1 hk
  obtain rfl : cs = #[.int .i64 k.op, .int .i64 k.id, vl] := Array.toList_inj.1 e
  have HK := Lib.hid hk
  obtain ⟨Al, cl, el, _⟩ := id hl
  subst el
  clear hk e hl hop hid
  go_enter Try.func8, Try.ntmps8
  go_wp2_with fail
  refine (short_calls _ (fun _ => True) _ [k] ?_).mono ?_
  · exact ⟨_, 1, rfl, by simp, by omega, by simp, Row.of_block (heap_new _ _ (by simp) _) trivial fun j x hj => by
      match j, hj with
      | 0, hj =>
        simp at hj; subst hj
        refine ⟨_, kDo.mono (fun _ _ => trivial) (kDo.keep HK.out (fun b hb hl => by rw [Below.heap_alloc _ _ _ (by simp; omega), Below.heap_alloc _ _ _ hl])), fun i u hi => ?_⟩
        simp only [Nat.zero_mul, Nat.zero_add]
        simpa using hi⟩
  rintro e w1 ⟨⟨b, rfl, -⟩, n1, rfl⟩
  obtain ⟨w2, hw2⟩ : ∃ w2, w2 = ((w.alloc (.cells #[.int .i64 k.op, .int .i64 k.id, .slice Al k.l.length cl] 52)).alloc (.cells #[.int .i64 k.op, .int .i64 k.id, .slice Al k.l.length cl] 52)).drewN n1 := ⟨_, rfl⟩
  have HE2 := Lib.hid (show Ext w w2 by rw [hw2]; exact (((Ext.refl w).alloc _).alloc _).drewN _)
  have HB2 := Lib.hid (show w2.heap[w.heap.size]? = some (.cells #[.int .i64 k.op, .int .i64 k.id, .slice Al k.l.length cl] 52 (0, 0)) by rw [hw2]; exact blk_ext (heap_new w _ rfl _) (((Ext.refl _).alloc _).drewN _))
  obtain ⟨q, hq⟩ : ∃ q, q = w.heap.size := ⟨_, rfl⟩
  rw [← hq] at HB2 ⊢
  rw [← hw2]
  clear hw2 hq
  cases b
  · go_wp2_with fail
    refine (awake_calls _).mono ?_
    rintro e w3 ⟨rfl, hx⟩
    have HE3 := Lib.hid (HE2.out.trans hx)
    clear hx
    go_wp2_with fail
    go_ret
    exact ⟨rfl, HE3.out⟩
  · go_wp2_with fail
    obtain ⟨w3, hw3⟩ : ∃ w3, w3 = (w2.alloc (.cells #[.slice none 0 0, .int .i64 0, .bool false] 62)).alloc (.cells #[.pointer none, .pointer (some ⟨w2.heap.size, 0, none⟩)] 46) := ⟨_, rfl⟩
    have hx : Ext w2 w3 := by rw [hw3]; exact ((Ext.refl w2).alloc _).alloc _
    have HE3 := Lib.hid (HE2.out.trans hx)
    have HB3 := Lib.hid (blk_ext HB2.out hx)
    have HN3 := Lib.hid (show w3.heap[w2.heap.size]? = some (.cells #[.slice none 0 0, .int .i64 0, .bool false] 62 (0, 0)) by rw [hw3]; exact blk_ext (heap_new w2 _ rfl _) ((Ext.refl _).alloc _))
    have HL3 := Lib.hid (show w3.heap[w2.heap.size + 1]? = some (.cells #[.pointer none, .pointer (some ⟨w2.heap.size, 0, none⟩)] 46 (0, 0)) by rw [hw3]; exact heap_new _ _ (by simp) _)
    obtain ⟨g, hg⟩ : ∃ g, g = w2.heap.size := ⟨_, rfl⟩
    rw [← hg] at HN3 HL3 hw3 ⊢
    rw [← hw3]
    clear hw3 hg hx HE2 HB2
    go_loopw [18] (fun i wr => ∃ j : Nat, j ≤ 2 ∧ i = .int .i64 j ∧ Hid (Ext w3 wr)) (fun i _ => 2 - (intOf i).toNat)
    case atStart => exact ⟨0, by omega, rfl, Lib.hid (Ext.refl _)⟩
    case round =>
      obtain ⟨j, hj, rfl, HX⟩ := hrel
      by_cases hlt : j < 2
      · obtain ⟨a, HNX, hcell⟩ : ∃ a, Hid (NetX wr (.pointer a)) ∧ wr.cell? ⟨g + 1, j, none⟩ = some (.pointer a) := by
          have hl := blk_ext HL3.out HX.out
          rcases (show j = 0 ∨ j = 1 by omega) with rfl | rfl
          · exact ⟨none, Lib.hid (.inl rfl), cell_blk hl 0⟩
          · exact ⟨_, Lib.hid (.inr ⟨g, rfl, blk_ext HN3.out HX.out⟩), cell_blk hl 1⟩
        have hcell2 : wr.cell? ((⟨g + 1, 0, none⟩ : Addr).add j) = some (.pointer a) := by rw [add_lit0]; exact hcell
        have hq1 : wr.cell? ⟨q, 1, none⟩ = some (.int .i64 k.id) := cell_blk (blk_ext HB3.out HX.out) 1
        go_wp2_with fail
        refine (PeekX_calls wr _ k.id HNX.out).mono ?_
        rintro e w4 ⟨rfl, hx⟩
        have HX4 := Lib.hid (HX.out.trans hx)
        have HN4 := Lib.hid (HNX.out.ext hx)
        clear hx HX HNX hcell hcell2 hq1
        dsimp only [msgC, zeroM]
        go_upto_region 7 with fail
        obtain ⟨w5, hw5⟩ : ∃ w5, w5 = w4.alloc (.cells (msgC zeroM (.slice none 0 0) (.slice none 0 0) (.slice none 0 0)) 26) := ⟨_, rfl⟩
        have HM5 := Lib.hid (show w5.heap[w4.heap.size]? = some (.cells (msgC zeroM (.slice none 0 0) (.slice none 0 0) (.slice none 0 0)) 26 (0, 0)) by rw [hw5]; exact heap_new w4 _ rfl _)
        have hx : Ext w4 w5 := by rw [hw5]; exact (Ext.refl w4).alloc _
        have HX5 := Lib.hid (HX4.out.trans hx)
        have HN5 := Lib.hid (HN4.out.ext hx)
        unfold msgC zeroM at hw5
        rw [← hw5]
        have hq1 : w5.cell? ⟨q, 1, none⟩ = some (.int .i64 k.id) := cell_blk (blk_ext HB3.out HX5.out) 1
        clear hw5 hx HX4 HN4
        go_wp2_with fail
        refine (TakeX_calls w5 _ k.id HN5.out).mono ?_
        rintro e w6 ⟨rfl, hx⟩
        have HX6 := Lib.hid (HX5.out.trans hx)
        have HN6 := Lib.hid (HN5.out.ext hx)
        have HM6 := Lib.hid (blk_ext HM5.out hx)
        clear hx HX5 HN5 HM5 hq1
        dsimp only [msgC, zeroM]
        go_upto_region 8 with fail
        obtain ⟨w7, hw7⟩ : ∃ w7, w7 = w6.alloc (.cells (msgC zeroM (.slice none 0 0) (.slice none 0 0) (.slice none 0 0)) 26) := ⟨_, rfl⟩
        have HP7 := Lib.hid (show w7.heap[w6.heap.size]? = some (.cells (msgC zeroM (.slice none 0 0) (.slice none 0 0) (.slice none 0 0)) 26 (0, 0)) by rw [hw7]; exact heap_new w6 _ rfl _)
        have hx : Ext w6 w7 := by rw [hw7]; exact (Ext.refl w6).alloc _
        have HX7 := Lib.hid (HX6.out.trans hx)
        have HN7 := Lib.hid (HN6.out.ext hx)
        have hm7 := blk_ext HM6.out hx
        unfold msgC zeroM at hw7
        rw [← hw7]
        obtain ⟨⟨x0, x1, x2, x3, x4, x5, x6, x7, x8, x9, x10, x11, x12⟩, -⟩ := msg_cells hm7
        simp only [zeroM] at x0 x1 x2 x3 x4 x5 x6 x7 x8 x9
        clear hw7 hx HX6 HN6 HM6 hm7
        go_wp2_with fail
        refine (same_calls w7 (fun _ => True) (fun _ => True) _ _ zeroM zeroM (zero_V _ _) (zero_V _ _)).mono ?_
        rw [decide_eq_true (rfl : zeroM = zeroM)]
        rintro e w8 ⟨rfl, hx⟩
        have HX8 := Lib.hid (HX7.out.trans hx)
        have HN8 := Lib.hid (HN7.out.ext hx)
        have hp8 := blk_ext HP7.out hx
        clear hx HX7 HN7 HP7 x0 x1 x2 x3 x4 x5 x6 x7 x8 x9 x10 x11 x12
        obtain ⟨⟨x0, x1, x2, x3, x4, x5, x6, x7, x8, x9, x10, x11, x12⟩, -⟩ := msg_cells hp8
        simp only [zeroM] at x0 x1 x2 x3 x4 x5 x6 x7 x8 x9
        clear hp8
        go_wp2_with fail
        refine (same_calls w8 (fun _ => True) (fun _ => True) _ _ zeroM zeroM (zero_V _ _) (zero_V _ _)).mono ?_
        rw [decide_eq_true (rfl : zeroM = zeroM)]
        rintro e w9 ⟨rfl, hx⟩
        have HX9 := Lib.hid (HX8.out.trans hx)
        have HN9 := Lib.hid (HN8.out.ext hx)
        clear hx HX8 HN8 x0 x1 x2 x3 x4 x5 x6 x7 x8 x9 x10 x11 x12
        have hq1 : w9.cell? ⟨q, 1, none⟩ = some (.int .i64 k.id) := cell_blk (blk_ext HB3.out HX9.out) 1
        have hq2 : w9.cell? ⟨q, 2, none⟩ = some (.slice Al k.l.length cl) := cell_blk (blk_ext HB3.out HX9.out) 2
        go_wp2_with fail
        refine (LoseX_calls w9 _ k.id HN9.out).mono ?_
        rintro e w10 ⟨rfl, rfl⟩
        go_wp2_with fail
        refine (DoubleX_calls _ _ k.id HN9.out).mono ?_
        rintro e w11 ⟨rfl, hx⟩
        have HX11 := Lib.hid (HX9.out.trans hx)
        have HN11 := Lib.hid (HN9.out.ext hx)
        clear hx HX9 HN9 hq1 hq2
        have hq2 : w11.cell? ⟨q, 2, none⟩ = some (.slice Al k.l.length cl) := cell_blk (blk_ext HB3.out HX11.out) 2
        go_wp2_with fail
        refine (SendX_calls _ _ _ HN11.out).mono ?_
        rintro e w12 ⟨rfl, rfl⟩
        go_wp2_with fail
        refine (ListX_calls _ _ HN11.out).mono ?_
        rintro e w13 ⟨rfl, rfl⟩
        go_wp2_with fail
        go_roundw
        case rel => exact ⟨j + 1, by omega, by go_num, HX11⟩
        case measure => simp [intOf]; omega
      · obtain rfl : j = 2 := by omega
        clear hlt
        go_wp2_with fail
        refine (awake_calls _).mono ?_
        rintro e w4 ⟨rfl, hx⟩
        have HE4 := Lib.hid ((HE3.out.trans HX.out).trans hx)
        clear hx
        go_wp2_with fail
        go_ret
        exact ⟨rfl, HE4.out⟩
end Go.Proofs.Ytfflcnlgkbgbhaa
