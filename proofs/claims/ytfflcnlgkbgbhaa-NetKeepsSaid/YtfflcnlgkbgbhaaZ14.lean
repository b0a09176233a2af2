/-
  Texts of this claim, put together: Bag3, Bag4, MsgAw6, MsgAwk.
-/
import Derived.Test.YtfflcnlgkbgbhaaZ13
set_option linter.unusedVariables false
set_option linter.unusedSimpArgs false
namespace Go.Proofs.Ytfflcnlgkbgbhaa
open Go.RowKit

theorem Rs.one_msg {W : World} {T : Nat → Prop} {g : Nat} {t : TypeId} {m : MsgS} {ve vv vd : Value} (hb : W.heap[g]? = some (.cells (msgC m ve vv vd) t (0, 0))) (hS : T g) (hm : MsgV W T (.agg (msgC m ve vv vd)) m) :
    Rs kMsg W T (.slice (some ⟨g, 0, none⟩) 1 1) [m] :=
  ⟨_, 1, rfl, by simp, by omega, by simp, Row.of_block hb hS fun j x hj => by
    match j, hj with
    | 0, hj =>
      simp at hj; subst hj
      obtain ⟨ve', vv', vd', e, h1, h2, h3, h4⟩ := hm
      simp only [msgC, Value.agg.injEq, Array.mk.injEq, List.cons.injEq, and_true, true_and] at e
      obtain ⟨rfl, rfl, rfl⟩ := e
      refine ⟨_, kMsg_iff.2 ⟨_, _, _, rfl, h1, h2, h3, h4⟩, fun i u hi => ?_⟩
      simp only [Nat.zero_mul, Nat.zero_add]
      simpa using hi⟩

theorem Upd.then_ {S T : Nat → Prop} {a b c : World} (h : Upd S a b) (k : Upd T b c) (hT : ∀ x, T x → S x ∨ a.heap.size ≤ x) : Upd S a c :=
  ⟨k.os.trans h.os, k.tape.trans h.tape, k.output.trans h.output, Nat.le_trans h.size k.size, fun i hi hn => (k.block i (Nat.lt_of_lt_of_le hi h.size) fun hx => (hT i hx).elim hn fun h2 => by omega).trans (h.block i hi hn)⟩

set_option maxRecDepth 1000000 in
set_option maxHeartbeats 4000000 in
theorem NetTake_calls (w : World) (g : Nat) (B : Nat → Prop) (s : BagS) (n : Int) (hid : I64 n) (h : NetR w g B s) :
    Calls Try.prog 24 #[.pointer (some ⟨g, 0, none⟩), .int .i64 n] w fun e w' => ∃ mv, e = .returned (.tuple #[mv, .int .i64 ((s.peek n).2 : Int)]) ∧ MsgV w' (w.heap.size ≤ ·) mv (s.peek n).1 ∧ NetR w' g (fun b => w.heap.size ≤ b ∨ B b) (s.lose n).1 ∧ Upd (fun b => b = g) w w' := by
  have HI := Lib.hid hid
  obtain ⟨B', hB'⟩ : ∃ B' : Nat → Prop, B' = fun b => B b ∧ b < w.heap.size := ⟨_, rfl⟩
  have HN := Lib.hid (show NetR w g B' s by rw [hB']; exact h.bound)
  have HB' := Lib.hid (show ∀ b, B' b → B b ∧ b < w.heap.size by rw [hB']; exact fun b hb => hb)
  have HGL := Lib.hid h.lt
  have HBG := Lib.hid (show ¬ B g by obtain ⟨_, _, _, _, _, _, h⟩ := h; exact h)
  have HPL := Lib.hid (show (s.peek n).2 ≠ 0 → s.lose n = (s, 130) by
    intro h0
    rcases at_lt n h.ok with h1 | ⟨i, h1, _, _⟩
    · unfold BagS.lose; rw [if_pos (by omega)]
    · exact absurd (show (s.peek n).2 = 0 by unfold BagS.peek; rw [if_neg (by omega)]) h0)
  clear h hid hB'
  go_enter Try.func24, Try.ntmps24
  go_wp2_with fail
  obtain ⟨w1, hw1⟩ : ∃ w1, w1 = w.alloc (.cells (msgC zeroM (.slice none 0 0) (.slice none 0 0) (.slice none 0 0)) 26) := ⟨_, rfl⟩
  have HB1 := Lib.hid (show w1.heap[w.heap.size]? = some (.cells (msgC zeroM (.slice none 0 0) (.slice none 0 0) (.slice none 0 0)) 26 (0, 0)) by rw [hw1]; exact heap_new w _ rfl _)
  have HX1 := Lib.hid (show Ext w w1 by rw [hw1]; exact (Ext.refl w).alloc _)
  have hs1 : w1.heap.size = w.heap.size + 1 := by rw [hw1]; simp
  unfold msgC zeroM at hw1
  rw [← hw1]
  clear hw1
  have HS1 := Lib.hid hs1
  clear hs1
  refine (NetPeek_calls w1 g B' s n HI.out (HN.out.ext HX1.out)).mono ?_
  rintro e w2 ⟨mv, rfl, hm, hx⟩
  have HB2 := Lib.hid (blk_ext HB1.out hx)
  have HX2 := Lib.hid (HX1.out.trans hx)
  have HM := Lib.hid (hm.mono (S' := (w.heap.size + 1 ≤ ·)) fun k hk => by rw [← HS1.out]; exact hk)
  obtain ⟨Ae, ce, Av, cv, Ad, cd, rfl, -⟩ := hm.form
  clear hm hx HB1 HX1
  generalize hpe0 : (s.peek n).2 = pe at HPL ⊢
  generalize hm0 : (s.peek n).1 = m at HM ⊢
  have HPE := Lib.hid (show s.peek n = (m, pe) by rw [← hm0, ← hpe0])
  clear hpe0 hm0
  dsimp only [msgC]
  go_upto_region 2 with fail
  obtain ⟨w3, hw3⟩ : ∃ w3, w3 = w2.alloc (.cells (msgC m (.slice Ae m.entries.length ce) (.slice Av m.voters.length cv) (.slice Ad m.data.length cd)) 26) := ⟨_, rfl⟩
  have HB3 := Lib.hid (show w3.heap[w.heap.size]? = some (.cells (msgC zeroM (.slice none 0 0) (.slice none 0 0) (.slice none 0 0)) 26 (0, 0)) by rw [hw3]; exact blk_ext HB2.out ((Ext.refl w2).alloc _))
  have HC3 := Lib.hid (show w3.heap[w2.heap.size]? = some (.cells (msgC m (.slice Ae m.entries.length ce) (.slice Av m.voters.length cv) (.slice Ad m.data.length cd)) 26 (0, 0)) by rw [hw3]; exact heap_new w2 _ rfl _)
  have HX3 := Lib.hid (show Ext w w3 by rw [hw3]; exact HX2.out.alloc _)
  have HM3 := Lib.hid (show MsgV w3 (w.heap.size + 1 ≤ ·) (.agg (msgC m (.slice Ae m.entries.length ce) (.slice Av m.voters.length cv) (.slice Ad m.data.length cd))) m by rw [hw3]; exact HM.out.ext ((Ext.refl w2).alloc _))
  unfold msgC at hw3
  rw [← hw3]
  clear hw3 HB2 HM
  have HEND := Lib.hid (show ∀ W, W.heap[w.heap.size]? = some (.cells (msgC zeroM (.slice none 0 0) (.slice none 0 0) (.slice none 0 0)) 26 (0, 0)) → MsgV W (w.heap.size + 1 ≤ ·) (.agg (msgC m (.slice Ae m.entries.length ce) (.slice Av m.voters.length cv) (.slice Ad m.data.length cd))) m → NetR W g (fun b => w.heap.size + 1 ≤ b ∨ B' b) (s.lose n).1 → Upd (fun b => b = g) w W →
      (setM W w.heap.size m (.slice Ae m.entries.length ce) (.slice Av m.voters.length cv) (.slice Ad m.data.length cd)).heap[w.heap.size]? = some (.cells (msgC m (.slice Ae m.entries.length ce) (.slice Av m.voters.length cv) (.slice Ad m.data.length cd)) 26 (0, 0)) ∧
      MsgV (setM W w.heap.size m (.slice Ae m.entries.length ce) (.slice Av m.voters.length cv) (.slice Ad m.data.length cd)) (w.heap.size ≤ ·) (.agg (msgC m (.slice Ae m.entries.length ce) (.slice Av m.voters.length cv) (.slice Ad m.data.length cd))) m ∧
      NetR (setM W w.heap.size m (.slice Ae m.entries.length ce) (.slice Av m.voters.length cv) (.slice Ad m.data.length cd)) g (fun b => w.heap.size ≤ b ∨ B b) (s.lose n).1 ∧ Upd (fun b => b = g) w (setM W w.heap.size m (.slice Ae m.entries.length ce) (.slice Av m.voters.length cv) (.slice Ad m.data.length cd)) from
    fun W hb hm hn hu => by
      have hu2 := setM_upd W w.heap.size m (.slice Ae m.entries.length ce) (.slice Av m.voters.length cv) (.slice Ad m.data.length cd)
      have hgl := HGL.out
      refine ⟨setM_heap W w.heap.size m _ _ _ hb, (hm.keep fun k hk hl => hu2.block k hl (fun e => by have e' : k = w.heap.size := e; have h' : w.heap.size + 1 ≤ k := hk; omega)).mono fun k hk => Nat.le_of_succ_le hk, ?_, ?_⟩
      · refine (hn.keep fun b hb hl => hu2.block b hl fun e => ?_).mono (fun b hb => ?_) (fun h => by have h2 := HBG.out; rcases h with h | h; omega; exact h2 h)
        · have e' : b = w.heap.size := e
          rcases hb with (hb | hb) | hb
          · omega
          · have := (HB'.out b hb).2; omega
          · omega
        · rcases hb with hb | hb
          · exact .inl (by omega)
          · exact .inr (HB'.out b hb).1
      · exact hu.then_ hu2 fun x hx => .inr (by have hx' : x = w.heap.size := hx; omega))
  by_cases hpe : pe = 0
  · subst hpe
    clear HPL
    go_wp2_with fail
    refine (NetLose_calls w3 g B' s n HI.out (HN.out.ext HX3.out)).mono ?_
    rintro e w4 ⟨rfl, hn4, hu4⟩
    have hgl := HGL.out
    have hx2 := HX2.out.le
    have hb4 := blk_upd HB3.out hu4 (by omega)
    have hc4 := blk_upd HC3.out hu4 (by omega)
    have hm4 := HM3.out.keep (w' := w4) fun k hk hl => hu4.block k hl fun e => by have e' : k = g := e; omega
    obtain ⟨h1, h2, h3, h4⟩ := HEND.out w4 hb4 hm4 (hn4.mono (fun b hb => hb.elim (fun h => .inl (by have := blk_lt HC3.out; omega)) .inr) (fun h => by rcases h with h | h; omega; exact HBG.out (HB'.out g h).1)) (HX3.out.upd _ |>.trans hu4)
    have H1 := Lib.hid h1
    have H2 := Lib.hid h2
    have H3 := Lib.hid h3
    have H4 := Lib.hid h4
    obtain ⟨⟨x0, x1, x2, x3, x4, x5, x6, x7, x8, x9, x10, x11, x12⟩, ⟨y0, y1, y2, y3, y4, y5, y6, y7, y8, y9, y10, y11, y12⟩⟩ := msg_cells hb4
    simp only [zeroM] at x0 x1 x2 x3 x4 x5 x6 x7 x8 x9
    obtain ⟨⟨z0, z1, z2, z3, z4, z5, z6, z7, z8, z9, z10, z11, z12⟩, -⟩ := msg_cells hc4
    clear hn4 hu4 hb4 hc4 hm4 h1 h2 h3 h4 HEND
    go_wp2_with fail
    (try simp only [Exit.inBlock, Exit.then])
    refine bodyPost_ret (results_msg rfl _ _ _ _ _ _ _ _ _ rfl H1.out) rfl ?_
    rw [HPE.out]
    exact ⟨_, rfl, H2.out, H3.out, H4.out⟩
  · have hgl := HGL.out
    have hne : ((pe : Int) == 0) = false := beq_eq_false_iff_ne.2 (by omega)
    obtain ⟨h1, h2, h3, h4⟩ := HEND.out w3 HB3.out HM3.out (by
      rw [HPL.out hpe]
      exact (HN.out.ext HX3.out).mono (fun b hb => .inr hb) (fun h => by rcases h with h | h; omega; exact HBG.out (HB'.out g h).1)) (HX3.out.upd _)
    have H1 := Lib.hid h1
    have H2 := Lib.hid h2
    have H3 := Lib.hid h3
    have H4 := Lib.hid h4
    obtain ⟨⟨x0, x1, x2, x3, x4, x5, x6, x7, x8, x9, x10, x11, x12⟩, ⟨y0, y1, y2, y3, y4, y5, y6, y7, y8, y9, y10, y11, y12⟩⟩ := msg_cells HB3.out
    simp only [zeroM] at x0 x1 x2 x3 x4 x5 x6 x7 x8 x9
    obtain ⟨⟨z0, z1, z2, z3, z4, z5, z6, z7, z8, z9, z10, z11, z12⟩, -⟩ := msg_cells HC3.out
    clear h1 h2 h3 h4 HEND hpe HPL
    go_wp2_with fail
    (try simp only [Exit.inBlock, Exit.then])
    refine bodyPost_ret (results_msg rfl _ _ _ _ _ _ _ _ _ rfl H1.out) rfl ?_
    rw [HPE.out]
    exact ⟨_, rfl, H2.out, H3.out, H4.out⟩

set_option maxHeartbeats 1000000 in
theorem NetList_calls (w : World) (g : Nat) (B : Nat → Prop) (s : BagS) (h : NetR w g B s) :
    Calls Try.prog 33 #[.pointer (some ⟨g, 0, none⟩)] w fun e w' => ∃ u, e = .returned u ∧ Ow kInt 3 w' w.heap.size (w.heap.size ≤ ·) u s.ids ∧ Ext w w' := by
  obtain ⟨A, c, hb, hr, hok, hl62, _⟩ := h
  have hc0 : w.cell? ⟨g, 0, none⟩ = some (.slice A s.ids.length c) := cell_blk hb 0
  have HR := Lib.hid hr.under
  have HOK := Lib.hid hok
  have HL62 := Lib.hid hl62
  have h256 : s.ids.length ≤ 256 := by rw [hok.len]; exact hok.le
  clear hb hr hok hl62
  go_enter Try.func33, Try.ntmps33
  go_wp2_with fail
  go_loopw [3, 14] (fun v i wr => ∃ k : Nat, k ≤ s.ids.length ∧ i = .int .i64 k ∧ Hid (Ow kInt 3 wr w.heap.size (w.heap.size ≤ ·) v (s.ids.take k)) ∧ Hid (Ext w wr)) (fun _ i _ => s.ids.length - (intOf i).toNat)
  case atStart => exact ⟨0, Nat.zero_le _, rfl, Lib.hid (Ow.nil _ _ _ _ _), Lib.hid (Ext.refl _)⟩
  case round =>
    obtain ⟨k, hk, rfl, HO, HX⟩ := hrel
    by_cases hlt : k < s.ids.length
    · obtain ⟨ad, Ad, cd, rfl, hc1, hc2, _, hi⟩ := (HR.out.ext HX.out).shape.2.2.2.2.par (show k < (parcels s).length by rw [parcels_len HOK.out]; exact hlt)
      have hkp : k < (parcels s).length := by rw [parcels_len HOK.out]; exact hlt
      rw [parcels_fst HOK.out k hkp] at hc1 hi
      have HI := Lib.hid hi
      have HTK := Lib.hid (show s.ids.take (k + 1) = s.ids.take k ++ [s.ids[k]] from List.take_succ_eq_append_getElem hlt)
      generalize (parcels s)[k].2 = pb at hc2
      generalize s.ids[k] = x at hc1 HI HTK
      clear hi hc0 hkp
      have HSZ := Lib.hid (show ∀ o, (wr.alloc o).heap.size = wr.heap.size + 1 from fun o => by simp)
      obtain ⟨A0, n0, c0, hv⟩ : ∃ A n c, u3 = .slice A n c := by obtain ⟨A, c, e, _⟩ := id HO.out.rs; exact ⟨_, _, _, e⟩
      subst hv
      go_wp2_with (at_builtin; refine wpList_append_Rs kInt rfl (.tmp 18) (.tmp 21) 23 3 rfl tInts w.heap.size _ _ (s.ids.take k) [x] (w.heap.size ≤ ·) (fun _ => True) rfl rfl ((HO.out.alloc _).alloc _) (Rs.one_int _ _ _ (HSZ.out _) _ HI.out) (fun _ _ h => h) ?cn ?cb ?cz ?_)
      case cn => intro b hb; have := HX.out.le; simp at hb; show w.heap.size ≤ b; omega
      case cb => rw [List.length_take]; simp; omega
      case cz => have := HX.out.le; simp; omega
      intro v' w2 ho hg _
      have HO2 := Lib.hid (show Ow kInt 3 w2 w.heap.size (w.heap.size ≤ ·) v' (s.ids.take (k + 1)) by rw [HTK.out]; exact ho)
      have HX2 := Lib.hid (((HX.out.alloc _).alloc _).grown hg (fun k hk => HO.out.1 k hk))
      clear ho hg hc1 hc2
      go_wp2_with fail
      go_roundw
      case rel => exact ⟨k + 1, by omega, by go_num, HO2, HX2⟩
      case measure => simp [intOf]; omega
    · obtain rfl : k = s.ids.length := by omega
      have HO2 := Lib.hid (show Ow kInt 3 wr w.heap.size (w.heap.size ≤ ·) u3 s.ids by have h := HO.out; rw [List.take_length] at h; exact h)
      clear hlt HO
      go_wp2_with fail
      go_ret
      exact ⟨_, rfl, HO2.out, HX.out⟩
end Go.Proofs.Ytfflcnlgkbgbhaa
set_option linter.unusedVariables false
set_option linter.unusedSimpArgs false
namespace Go.Proofs.Ytfflcnlgkbgbhaa
open Go.RowKit

set_option maxRecDepth 1000000 in
set_option maxHeartbeats 8000000 in
theorem NetSend_calls (w : World) (g : Nat) (B T : Nat → Prop) (s : BagS) (v : Value) (l : List MsgS) (hl : s.last + (l.length : Int) ≤ 4611686018427387904) (h : NetR w g B s) (hT : ¬ T g) (hr : Rs kMsg w T v l) :
    Calls Try.prog 30 #[.pointer (some ⟨g, 0, none⟩), v] w fun e w' => e = .returned (.int .i64 ((s.send l).2 : Int)) ∧ NetR w' g (fun b => w.heap.size ≤ b ∨ B b) (s.send l).1 ∧ Upd (fun b => b = g) w w' := by
  have HRL := Lib.hid hr
  have HLS := Lib.hid hl
  have HGL := Lib.hid h.lt
  have HBG := Lib.hid (show ¬ (w.heap.size ≤ g ∨ B g) by have h1 := h.lt; obtain ⟨_, _, _, _, _, _, h⟩ := h; rintro (h2 | h2); omega; exact h h2)
  have HN := Lib.hid (h.mono (B' := fun b => w.heap.size ≤ b ∨ B b) (fun b hb => .inr hb) HBG.out)
  have HOK := Lib.hid h.ok
  obtain ⟨A, c, hb, -, -, -, -⟩ := h
  have hc2 : w.cell? ⟨g, 2, none⟩ = some (.bool true) := cell_blk hb 2
  obtain ⟨Al, cl, rfl, -, -, hlz, -⟩ := hr
  clear hb hl
  go_enter Try.func30, Try.ntmps30
  go_wp2_with fail
  clear hc2
  go_loopw [5, 21] (fun sv i wr => ∃ (k n1 : Nat) (s1 : BagS), k ≤ l.length ∧ i = .int .i64 k ∧ sv = .int .i64 (n1 : Int) ∧ Hid (s.send (l.take k) = (s1, n1)) ∧ Hid (NetR wr g (fun b => w.heap.size ≤ b ∨ B b) s1) ∧ Hid (Upd (fun b => b = g) w wr)) (fun _ i _ => l.length - (intOf i).toNat)
  case atStart => exact ⟨0, 0, s, Nat.zero_le _, rfl, rfl, Lib.hid rfl, HN, Lib.hid (Upd.refl _ _)⟩
  case round =>
    clear HN
    obtain ⟨k, n1, s1, hk, rfl, rfl, HQ, HN, HU⟩ := hrel
    by_cases hlt : k < l.length
    · obtain ⟨ad, Ae, ce, Av, cv, Ad, cd, rfl, z0, z1, z2, z3, z4, z5, z6, z7, z8, z9, z10, z11, z12, hm⟩ := (HRL.out.upd HU.out (fun b hb e => hT (e ▸ hb))).shape.2.2.2.2.msg hlt
      have HST := Lib.hid (show s.send (l.take (k + 1)) = BagS.step (s1, n1) l[k] by rw [send_take s l k hlt, HQ.out])
      have hsl := send_last s (l.take k)
      rw [HQ.out, List.length_take] at hsl
      simp only at hsl
      have HLA := Lib.hid (show s1.last + 1 ≤ 4611686018427387904 by have := HLS.out; omega)
      have HN1 := Lib.hid (show n1 ≤ k by omega)
      have HM := Lib.hid hm
      clear hsl hm
      generalize l[k] = m at z0 z1 z2 z3 z4 z5 z6 z7 z8 z9 z10 z11 z12 HST HM
      go_upto_region 7 with fail
      obtain ⟨wa, hwa⟩ : ∃ wa, wa = wr.alloc (.cells (msgC m (.slice Ae m.entries.length ce) (.slice Av m.voters.length cv) (.slice Ad m.data.length cd)) 26) := ⟨_, rfl⟩
      have HBa := Lib.hid (show wa.heap[wr.heap.size]? = some (.cells (msgC m (.slice Ae m.entries.length ce) (.slice Av m.voters.length cv) (.slice Ad m.data.length cd)) 26 (0, 0)) by rw [hwa]; exact heap_new wr _ rfl _)
      have HXa := Lib.hid (show Ext wr wa by rw [hwa]; exact (Ext.refl wr).alloc _)
      have HMa := Lib.hid (HM.out.ext HXa.out)
      unfold msgC at hwa
      rw [← hwa]
      clear hwa HM z0 z1 z2 z3 z4 z5 z6 z7 z8 z9 z10 z11 z12
      obtain ⟨⟨x0, x1, x2, x3, x4, x5, x6, x7, x8, x9, x10, x11, x12⟩, -⟩ := msg_cells HBa.out
      go_wp2_with fail
      refine (Put_calls wa T _ m HMa.out).mono ?_
      rintro e w2 ⟨u, rfl, ho, hx⟩
      obtain ⟨Au, cu, eu, _⟩ := id ho.rs
      subst eu
      have HX2 := Lib.hid (HXa.out.trans hx)
      have HU2 := Lib.hid (HU.out.trans (HX2.out.upd _))
      have HN2 := Lib.hid (HN.out.ext HX2.out)
      have HO := Lib.hid ho.rs
      have HWA := Lib.hid (show w.heap.size ≤ wa.heap.size from Nat.le_trans HU.out.le HXa.out.le)
      clear ho hx x0 x1 x2 x3 x4 x5 x6 x7 x8 x9 x10 x11 x12 HBa HMa HXa HN HU
      cases hck : chkM m
      · have HS2 := Lib.hid (show s.send (l.take (k + 1)) = (s1, n1) by rw [HST.out]; unfold BagS.step; rw [if_neg (fun h => by rw [hck] at h; cases h.1)])
        rw [putM_no hck]
        clear hck HST
        dsimp only
        go_wp2_with fail
        go_roundw
        case rel => exact ⟨k + 1, n1, s1, by omega, by go_num, rfl, HS2, HN2, HU2⟩
        case measure => simp [intOf]; omega
      · have HPM := Lib.hid (show (putM m).2 = 0 from putM_zero.2 hck)
        rw [HPM.out]
        have HCK := Lib.hid hck
        clear hck
        obtain ⟨A, c, hb, hr, hok, hl62, hBg⟩ := HN2.out
        have hc0 : w2.cell? ⟨g, 0, none⟩ = some (.slice A s1.ids.length c) := cell_blk hb 0
        by_cases h256 : s1.ms.length < 256
        · have hlt6 : (s1.ids.length : Int) < 256 := by have := hok.len; omega
          have hdt6 : decide ((s1.ids.length : Int) < 256) = true := decide_eq_true hlt6
          have hdn6 : s1.ids.length < 256 := by omega
          have HS2 := Lib.hid (show s.send (l.take (k + 1)) = (⟨s1.ms ++ [m], s1.ids ++ [s1.last + 1], s1.last + 1⟩, n1 + 1) by rw [HST.out]; unfold BagS.step; rw [if_pos ⟨HCK.out, h256⟩])
          have hc1 : w2.cell? ⟨g, 1, none⟩ = some (.int .i64 s1.last) := cell_blk hb 1
          have hf1 : w2.frozen? ⟨g, 1, none⟩ = false := frozen_blk hb 1
          have hlo := hok.lo
          have HB3 := Lib.hid (show (w2.setCell ⟨g, 1, none⟩ (.int .i64 (s1.last + 1))).heap[g]? = some (.cells #[.slice A s1.ids.length c, .int .i64 (s1.last + 1), .bool true] 62 (0, 0)) from heap_setCell_same w2 g 1 _ _ _ hb)
          have HR3 := Lib.hid (show Rs kPar (w2.setCell ⟨g, 1, none⟩ (.int .i64 (s1.last + 1))) (fun b => w.heap.size ≤ b ∨ B b) (.slice A s1.ids.length c) (parcels s1) from hr.seti hBg _)
          have hgD : ¬ (wa.heap.size ≤ g) := by have h1 := HGL.out; have h2 := HWA.out; omega
          have HD3 := Lib.hid (HO.out.seti (g := g) (i := 1) hgD (.int .i64 (s1.last + 1)))
          have HOK1 := Lib.hid hok
          have H256 := Lib.hid h256
          have hw1 : IntKind.i64.wrap (s1.last + 1) = s1.last + 1 := IntWalk.i64_in _ (by omega)
          clear hb hr hok h256 HST
          go_upto_region 10 with fail
          refine sd10 g (fun b => w.heap.size ≤ b ∨ B b) (wa.heap.size ≤ ·) s1 m A Au c _ cu HB3 HR3 HD3 hBg hgD HOK1.out HCK.out H256.out HLA.out ?_
          intros
          rename_i wx hrel
          have hz2 : (w2.setCell ⟨g, 1, none⟩ (.int .i64 (s1.last + 1))).heap.size = w2.heap.size := by simp [World.setCell]
          have HN4 := Lib.hid (hrel.out.1.mono (B' := fun b => w.heap.size ≤ b ∨ B b) (fun b hb => by
            have h1 := HWA.out
            have h2 := HU2.out.le
            rw [hz2] at hb
            rcases hb with hb | hb | hb
            · exact .inl (by omega)
            · exact hb
            · exact .inl (by have hb' : wa.heap.size ≤ b := hb; omega)) hBg)
          have HU4 := Lib.hid ((upd_at HU2.out 1 (.int .i64 (s1.last + 1))).trans hrel.out.2)
          have hn1 := HN1.out
          clear hrel HB3 HR3 HD3 hc0 hc1 hf1 hlo hw1 hl62 hz2 hlt6 hdt6 hdn6
          go_wp2_with fail
          go_roundw
          case rel => exact ⟨k + 1, n1 + 1, _, by omega, by go_num, by go_num, HS2, HN4, HU4⟩
          case measure => simp [intOf]; omega
        · have hlt6 : ¬ (s1.ids.length : Int) < 256 := by have := hok.len; omega
          have hdt6 : decide ((s1.ids.length : Int) < 256) = false := decide_eq_false hlt6
          have hdn6 : ¬ s1.ids.length < 256 := by omega
          have HS2 := Lib.hid (show s.send (l.take (k + 1)) = (s1, n1) by rw [HST.out]; unfold BagS.step; rw [if_neg (fun h => h256 h.2)])
          clear hb hr hok h256 HST
          go_wp2_with fail
          go_roundw
          case rel => exact ⟨k + 1, n1, s1, by omega, by go_num, rfl, HS2, HN2, HU2⟩
          case measure => simp [intOf]; omega
    · obtain rfl : k = l.length := by omega
      have HF := Lib.hid (show s.send l = (s1, n1) by have h := HQ.out; rw [List.take_length] at h; exact h)
      clear hlt HQ
      go_wp2_with fail
      go_ret
      rw [HF.out]
      exact ⟨rfl, HN.out, HU.out⟩

set_option maxRecDepth 1000000 in
set_option maxHeartbeats 4000000 in
theorem NetDouble_calls (w : World) (g : Nat) (B : Nat → Prop) (s : BagS) (n : Int) (hid : I64 n) (hl : s.last + 1 ≤ 4611686018427387904) (h : NetR w g B s) :
    Calls Try.prog 28 #[.pointer (some ⟨g, 0, none⟩), .int .i64 n] w fun e w' => e = .returned (.int .i64 ((s.double n).2 : Int)) ∧ NetR w' g (fun b => w.heap.size ≤ b ∨ B b) (s.double n).1 ∧ Upd (fun b => b = g) w w' := by
  have HI := Lib.hid hid
  have HN := Lib.hid h
  have HLS := Lib.hid hl
  have HBG := Lib.hid (show ¬ (w.heap.size ≤ g ∨ B g) by have h1 := h.lt; obtain ⟨_, _, _, _, _, _, h⟩ := h; rintro (h2 | h2); omega; exact h h2)
  have HGL := Lib.hid h.lt
  clear h hid hl
  go_enter Try.func28, Try.ntmps28
  go_wp2_with fail
  refine (NetPeek_calls w g B s n HI.out HN.out).mono ?_
  rintro e w2 ⟨mv, rfl, hm, hx⟩
  have HX2 := Lib.hid hx
  have HM := Lib.hid hm
  obtain ⟨Ae, ce, Av, cv, Ad, cd, rfl, -⟩ := hm.form
  clear hm hx
  generalize hpe0 : (s.peek n).2 = pe
  generalize hm0 : (s.peek n).1 = m at HM ⊢
  have HPE := Lib.hid (show s.peek n = (m, pe) by rw [← hm0, ← hpe0])
  clear hpe0 hm0
  dsimp only [msgC]
  go_upto_region 2 with fail
  obtain ⟨w3, hw3⟩ : ∃ w3, w3 = w2.alloc (.cells (msgC m (.slice Ae m.entries.length ce) (.slice Av m.voters.length cv) (.slice Ad m.data.length cd)) 26) := ⟨_, rfl⟩
  have HC3 := Lib.hid (show w3.heap[w2.heap.size]? = some (.cells (msgC m (.slice Ae m.entries.length ce) (.slice Av m.voters.length cv) (.slice Ad m.data.length cd)) 26 (0, 0)) by rw [hw3]; exact heap_new w2 _ rfl _)
  have HX3 := Lib.hid (show Ext w w3 by rw [hw3]; exact HX2.out.alloc _)
  have HM3 := Lib.hid (show MsgV w3 (w.heap.size ≤ ·) (.agg (msgC m (.slice Ae m.entries.length ce) (.slice Av m.voters.length cv) (.slice Ad m.data.length cd))) m by rw [hw3]; exact HM.out.ext ((Ext.refl w2).alloc _))
  unfold msgC at hw3
  rw [← hw3]
  clear hw3 HM
  by_cases hpe : pe = 0
  · subst hpe
    obtain ⟨⟨z0, z1, z2, z3, z4, z5, z6, z7, z8, z9, z10, z11, z12⟩, -⟩ := msg_cells HC3.out
    go_wp2_with fail
    obtain ⟨w4, hw4⟩ : ∃ w4, w4 = w3.alloc (.cells (msgC m (.slice Ae m.entries.length ce) (.slice Av m.voters.length cv) (.slice Ad m.data.length cd)) 26) := ⟨_, rfl⟩
    have HC4 := Lib.hid (show w4.heap[w3.heap.size]? = some (.cells (msgC m (.slice Ae m.entries.length ce) (.slice Av m.voters.length cv) (.slice Ad m.data.length cd)) 26 (0, 0)) by rw [hw4]; exact heap_new w3 _ rfl _)
    have HX4 := Lib.hid (show Ext w w4 by rw [hw4]; exact HX3.out.alloc _)
    have HM4 := Lib.hid (show MsgV w4 (w.heap.size ≤ ·) (.agg (msgC m (.slice Ae m.entries.length ce) (.slice Av m.voters.length cv) (.slice Ad m.data.length cd))) m by rw [hw4]; exact HM3.out.ext ((Ext.refl w3).alloc _))
    unfold msgC at hw4
    rw [← hw4]
    clear hw4 z0 z1 z2 z3 z4 z5 z6 z7 z8 z9 z10 z11 z12 HM3 HC3
    refine (NetSend_calls w4 g B (w.heap.size ≤ ·) s _ [m] (by have := HLS.out; simpa using this) (HN.out.ext HX4.out) (by have := HGL.out; omega) (Rs.one_msg HC4.out (Nat.le_trans HX3.out.le (Nat.le_refl _)) HM4.out)).mono ?_
    rintro e w5 ⟨rfl, hn5, hu5⟩
    have HN5 := Lib.hid (hn5.mono (B' := fun b => w.heap.size ≤ b ∨ B b) (fun b hb => hb.elim (fun h => .inl (Nat.le_trans HX4.out.le h)) .inr) HBG.out)
    have HU5 := Lib.hid ((HX4.out.upd _).trans hu5)
    clear hn5 hu5
    have HD := Lib.hid (show s.double n = ((s.send [m]).1, if (s.send [m]).2 = 0 then 7 else 0) by unfold BagS.double; rw [HPE.out]; rfl)
    obtain ⟨s', c', hsc⟩ := asPair (s.send [m])
    rw [hsc] at HN5 HD ⊢
    clear hsc
    by_cases hc : c' = 0
    · subst hc
      go_wp2_with fail
      go_ret
      rw [HD.out]
      exact ⟨rfl, HN5.out, HU5.out⟩
    · have hcb : ((c' : Int) == 0) = false := beq_eq_false_iff_ne.2 (by omega)
      have HC := Lib.hid (show s.double n = (s', 0) by rw [HD.out]; simp only [if_neg hc])
      dsimp only
      go_wp2_with fail
      go_ret
      rw [HC.out]
      exact ⟨rfl, HN5.out, HU5.out⟩
  · have hcb : ((pe : Int) != 0) = true := bne_iff_ne.2 (by omega)
    have HD := Lib.hid (show s.double n = (s, pe) by unfold BagS.double; rw [HPE.out, if_pos hpe])
    clear hpe
    go_wp2_with fail
    go_ret
    rw [HD.out]
    exact ⟨rfl, (HN.out.ext HX3.out).mono (fun b hb => .inr hb) HBG.out, HX3.out.upd _⟩
end Go.Proofs.Ytfflcnlgkbgbhaa
set_option linter.unusedVariables false
set_option linter.unusedSimpArgs false
namespace Go.Proofs.Ytfflcnlgkbgbhaa
open Go.RowKit

theorem Rs.two_msg {W : World} {T : Nat → Prop} {g : Nat} {t : TypeId} {m m2 : MsgS} {ve vv vd ve2 vv2 vd2 : Value} (hb : W.heap[g]? = some (.cells (msgC m ve vv vd ++ msgC m2 ve2 vv2 vd2) t (0, 0))) (hS : T g)
    (hm : MsgV W T (.agg (msgC m ve vv vd)) m) (hm2 : MsgV W T (.agg (msgC m2 ve2 vv2 vd2)) m2) :
    Rs kMsg W T (.slice (some ⟨g, 0, none⟩) 2 2) [m, m2] :=
  ⟨_, 2, rfl, by simp, by omega, by simp, Row.of_block hb hS fun j x hj => by
    match j, hj with
    | 0, hj =>
      simp at hj; subst hj
      obtain ⟨ve', vv', vd', e, h1, h2, h3, h4⟩ := hm
      simp only [msgC, Value.agg.injEq, Array.mk.injEq, List.cons.injEq, and_true, true_and] at e
      obtain ⟨rfl, rfl, rfl⟩ := e
      refine ⟨_, kMsg_iff.2 ⟨_, _, _, rfl, h1, h2, h3, h4⟩, fun i u hi => ?_⟩
      have hlt := (List.getElem?_eq_some_iff.1 hi).1
      simp only [Nat.zero_mul, Nat.zero_add]
      rw [Array.getElem?_append_left (by simpa using hlt)]
      simpa using hi
    | 1, hj =>
      simp at hj; subst hj
      obtain ⟨ve', vv', vd', e, h1, h2, h3, h4⟩ := hm2
      simp only [msgC, Value.agg.injEq, Array.mk.injEq, List.cons.injEq, and_true, true_and] at e
      obtain ⟨rfl, rfl, rfl⟩ := e
      refine ⟨_, kMsg_iff.2 ⟨_, _, _, rfl, h1, h2, h3, h4⟩, fun i u hi => ?_⟩
      have hz : kMsg.sz = 13 := rfl
      rw [hz, Nat.one_mul, Nat.zero_add, Array.getElem?_append_right (by simp [msgC])]
      have : 13 + i - (msgC m ve vv vd).size = i := by simp [msgC]
      rw [this]
      simpa using hi⟩

def voteM (n : Int) : MsgS := ⟨1, 6, n, 1, 0, 0, 0, 0, false, false, [], [], []⟩
theorem vote_V (w : World) (S : Nat → Prop) (n : Int) (hn : I64 n) : MsgV w S (.agg (msgC (voteM n) (.slice none 0 0) (.slice none 0 0) (.slice none 0 0))) (voteM n) :=
  ⟨_, _, _, rfl, Rs.nil _ _ _, Rs.nil _ _ _, Rs.nil _ _ _, by
    refine ⟨⟨?_, ?_⟩, ⟨?_, ?_⟩, hn, ⟨?_, ?_⟩, ⟨?_, ?_⟩, ⟨?_, ?_⟩, ⟨?_, ?_⟩, ⟨?_, ?_⟩⟩ <;> simp [voteM]⟩
theorem chk_vote1 : chkM (voteM 1) = true := by decide
theorem chk_vote2 : chkM (voteM 2) = true := by decide
def bag2 : BagS := ⟨[voteM 1, voteM 2], [1, 2], 2⟩
def bag3 : BagS := ⟨[voteM 1, voteM 2, voteM 1], [1, 2, 3], 3⟩
def bag4 : BagS := ⟨[voteM 2, voteM 1], [2, 3], 3⟩
def bag5 : BagS := ⟨[voteM 1], [3], 3⟩
theorem bag_s : bag0.send [voteM 1, voteM 2] = (bag2, 2) := by
  simp [BagS.send, BagS.step, bag0, bag2, chk_vote1, chk_vote2]
theorem bag2_at : bag2.at_ 1 = 0 := by decide
theorem bag2_peek : bag2.peek 1 = (voteM 1, 0) := by unfold BagS.peek; rw [bag2_at]; rfl
theorem bag_d : bag2.double 1 = (bag3, 0) := by
  unfold BagS.double
  rw [bag2_peek]
  simp [BagS.send, BagS.step, bag2, bag3, chk_vote1]
theorem bag3_at : bag3.at_ 1 = 0 := by decide
theorem bag3_peek : bag3.peek 1 = (voteM 1, 0) := by unfold BagS.peek; rw [bag3_at]; rfl
theorem bag3_lose : bag3.lose 1 = (bag4, 0) := by unfold BagS.lose; rw [bag3_at]; rfl
theorem bag4_at1 : bag4.at_ 1 = -1 := by decide
theorem bag4_peek : bag4.peek 1 = (zeroM, 130) := by unfold BagS.peek; rw [bag4_at1]; rfl
theorem bag4_at2 : bag4.at_ 2 = 0 := by decide
theorem bag4_lose : bag4.lose 2 = (bag5, 0) := by unfold BagS.lose; rw [bag4_at2]; rfl

set_option maxRecDepth 1000000 in
set_option maxHeartbeats 4000000 in
theorem aw6 {K : Act → World → Prop} {Q : Exit → Act → World → Prop} {w : World} {c0 c6 c8 c9 c10 c11 c12 c13 c14 c15 c16 c17 c18 c19 c20 c21 c22 c23 c24 c25 c26 c27 c28 c29 c30 c31 c32 c33 c34 c35 c36 c37 c38 c39 c40 c41 c42 c43 c44 c45 c46 c47 c48 c49 c50 c51 c52 c53 c54 c55 : Value} (g q : Nat) (B M : Nat → Prop) (ve vv vd : Value) (hf : ∃ A x c A2 x2 c2 A3 x3 c3, ve = .slice A x c ∧ vv = .slice A2 x2 c2 ∧ vd = .slice A3 x3 c3) (hq : Hid (w.heap[q]? = some (.cells (msgC (voteM 1) ve vv vd) 26 (0, 0)))) (hm : Hid (MsgV w M (.agg (msgC (voteM 1) ve vv vd)) (voteM 1))) (hqg : q ≠ g) (hn : Hid (NetR w g B bag4))
    (hK : ∀ (u26 u27 u28 u29 u30 u31 u32 u33 u34 u35 u36 u37 u38 u39 u40 u41 u42 u43 u44 u45 u46 u47 u48 u49 u50 u51 u52 u53 u54 u55 : Value) (wx : World), Hid (Upd (fun b => b = g) w wx) → K ⟨#[.bool true, .pointer (some ⟨g, 0, none⟩), .int .i64 2, .int .i64 0, .pointer (some ⟨q, 0, none⟩), .int .i64 0, c6, .int .i64 130, c8, c9, c10, c11, c12, c13, c14, c15, c16, c17, c18, c19, c20, c21, c22, c23, c24, c25, u26, u27, u28, u29, u30, u31, u32, u33, u34, u35, u36, u37, u38, u39, u40, u41, u42, u43, u44, u45, u46, u47, u48, u49, u50, u51, u52, u53, u54, u55], []⟩ wx) :
    Code.wp Try.prog ((Try.f11.body.bind (regionAt 6)).getD .skip) (Exit.then K Q) ⟨#[c0, .pointer (some ⟨g, 0, none⟩), .int .i64 2, .int .i64 0, .pointer (some ⟨q, 0, none⟩), .int .i64 0, c6, .int .i64 130, c8, c9, c10, c11, c12, c13, c14, c15, c16, c17, c18, c19, c20, c21, c22, c23, c24, c25, c26, c27, c28, c29, c30, c31, c32, c33, c34, c35, c36, c37, c38, c39, c40, c41, c42, c43, c44, c45, c46, c47, c48, c49, c50, c51, c52, c53, c54, c55], []⟩ w := by
  conv => arg 2; whnf
  have hK2 := Lib.hid @hK
  obtain ⟨A1, x1, c1, A2, x2, c2, A3, x3, c3, rfl, rfl, rfl⟩ := hf
  have HS0 := Lib.hid (show ∀ W : World, W.heap[q]? = some (.cells (msgC (voteM 1) (.slice A1 x1 c1) (.slice A2 x2 c2) (.slice A3 x3 c3)) 26 (0, 0)) → W.cell? ⟨q, 0, none⟩ = some (.int .i64 (voteM 1).kind) ∧ W.cell? ⟨q, 1, none⟩ = some (.int .i64 (voteM 1).from_) ∧ W.cell? ⟨q, 2, none⟩ = some (.int .i64 (voteM 1).to_) ∧ W.cell? ⟨q, 3, none⟩ = some (.int .i64 (voteM 1).term) ∧ W.cell? ⟨q, 4, none⟩ = some (.int .i64 (voteM 1).index) ∧ W.cell? ⟨q, 5, none⟩ = some (.int .i64 (voteM 1).logTerm) ∧ W.cell? ⟨q, 6, none⟩ = some (.int .i64 (voteM 1).commit) ∧ W.cell? ⟨q, 7, none⟩ = some (.int .i64 (voteM 1).round) ∧ W.cell? ⟨q, 8, none⟩ = some (.bool (voteM 1).yes) ∧ W.cell? ⟨q, 9, none⟩ = some (.bool (voteM 1).done) ∧ W.cell? ⟨q, 10, none⟩ = some (.slice A1 x1 c1) ∧ W.cell? ⟨q, 11, none⟩ = some (.slice A2 x2 c2) ∧ W.cell? ⟨q, 12, none⟩ = some (.slice A3 x3 c3) from fun W h => ⟨cell_blk h 0, cell_blk h 1, cell_blk h 2, cell_blk h 3, cell_blk h 4, cell_blk h 5, cell_blk h 6, cell_blk h 7, cell_blk h 8, cell_blk h 9, cell_blk h 10, cell_blk h 11, cell_blk h 12⟩)
  have HI1 := Lib.hid (show I64 1 from ⟨by decide, by decide⟩)
  have HI2 := Lib.hid (show I64 2 from ⟨by decide, by decide⟩)
  have HQG := Lib.hid hqg
  clear hK hqg
  have hb0 := Lib.hid (show w.drew.heap[q]? = some (.cells (msgC (voteM 1) (.slice A1 x1 c1) (.slice A2 x2 c2) (.slice A3 x3 c3)) 26 (0, 0)) from hq.out)
  have hx0 := Lib.hid (show Ext w w.drew from (Ext.refl w).drew)
  refine wpF_region (fun W => W.cell? ⟨q, 0, none⟩ = some (.int .i64 (voteM 1).kind) ∧ W.cell? ⟨q, 1, none⟩ = some (.int .i64 (voteM 1).from_) ∧ W.cell? ⟨q, 2, none⟩ = some (.int .i64 (voteM 1).to_) ∧ W.cell? ⟨q, 3, none⟩ = some (.int .i64 (voteM 1).term) ∧ W.cell? ⟨q, 4, none⟩ = some (.int .i64 (voteM 1).index) ∧ W.cell? ⟨q, 5, none⟩ = some (.int .i64 (voteM 1).logTerm) ∧ W.cell? ⟨q, 6, none⟩ = some (.int .i64 (voteM 1).commit) ∧ W.cell? ⟨q, 7, none⟩ = some (.int .i64 (voteM 1).round) ∧ W.cell? ⟨q, 8, none⟩ = some (.bool (voteM 1).yes) ∧ W.cell? ⟨q, 9, none⟩ = some (.bool (voteM 1).done) ∧ W.cell? ⟨q, 10, none⟩ = some (.slice A1 x1 c1) ∧ W.cell? ⟨q, 11, none⟩ = some (.slice A2 x2 c2) ∧ W.cell? ⟨q, 12, none⟩ = some (.slice A3 x3 c3)) (fun _ => True) 99 31 (by kernel_rfl) (by kernel_rfl) ?_
  refine wpF_take0 (i := 0) (v := ?v1) rfl (by kernel_rfl) (by kernel_rfl) (by kernel_rfl) (fun _ _ _ h => h) (by kernel_rfl) (Or.inl ⟨by rfl, ?hy1⟩) (HS0.out _ hb0.out) (fun _ => trivial) ?rest1
  case hy1 => (intro W hSW; (try dsimp only at hSW); go_simp; (try with_reducible rfl))
  (try simp only [Act.put, List.setIfInBounds_toArray, List.set_cons_zero, List.set_cons_succ])
  refine wpF_take0 (i := 1) (v := ?v2) rfl (by kernel_rfl) (by kernel_rfl) (by kernel_rfl) (fun _ _ _ h => h) (by kernel_rfl) (Or.inl ⟨by rfl, ?hy2⟩) (HS0.out _ hb0.out) (fun _ => trivial) ?rest2
  case hy2 => (intro W hSW; (try dsimp only at hSW); go_simp; (try with_reducible rfl))
  (try simp only [Act.put, List.setIfInBounds_toArray, List.set_cons_zero, List.set_cons_succ])
  refine wpF_take0 (i := 2) (v := ?v3) rfl (by kernel_rfl) (by kernel_rfl) (by kernel_rfl) (fun _ _ _ h => h) (by kernel_rfl) (Or.inl ⟨by rfl, ?hy3⟩) (HS0.out _ hb0.out) (fun _ => trivial) ?rest3
  case hy3 => (intro W hSW; (try dsimp only at hSW); go_simp; (try with_reducible rfl))
  (try simp only [Act.put, List.setIfInBounds_toArray, List.set_cons_zero, List.set_cons_succ])
  refine wpF_take0 (i := 3) (v := ?v4) rfl (by kernel_rfl) (by kernel_rfl) (by kernel_rfl) (fun _ _ _ h => h) (by kernel_rfl) (Or.inl ⟨by rfl, ?hy4⟩) (HS0.out _ hb0.out) (fun _ => trivial) ?rest4
  case hy4 => (intro W hSW; (try dsimp only at hSW); go_simp; (try with_reducible rfl))
  (try simp only [Act.put, List.setIfInBounds_toArray, List.set_cons_zero, List.set_cons_succ])
  refine wpF_take0 (i := 4) (v := ?v5) rfl (by kernel_rfl) (by kernel_rfl) (by kernel_rfl) (fun _ _ _ h => h) (by kernel_rfl) (Or.inl ⟨by rfl, ?hy5⟩) (HS0.out _ hb0.out) (fun _ => trivial) ?rest5
  case hy5 => (intro W hSW; (try dsimp only at hSW); go_simp; (try with_reducible rfl))
  (try simp only [Act.put, List.setIfInBounds_toArray, List.set_cons_zero, List.set_cons_succ])
  refine wpF_take0 (i := 5) (v := ?v6) rfl (by kernel_rfl) (by kernel_rfl) (by kernel_rfl) (fun _ _ _ h => h) (by kernel_rfl) (Or.inl ⟨by rfl, ?hy6⟩) (HS0.out _ hb0.out) (fun _ => trivial) ?rest6
  case hy6 => (intro W hSW; (try dsimp only at hSW); go_simp; (try with_reducible rfl))
  (try simp only [Act.put, List.setIfInBounds_toArray, List.set_cons_zero, List.set_cons_succ])
  refine wpF_take0 (i := 6) (v := ?v7) rfl (by kernel_rfl) (by kernel_rfl) (by kernel_rfl) (fun _ _ _ h => h) (by kernel_rfl) (Or.inl ⟨by rfl, ?hy7⟩) (HS0.out _ hb0.out) (fun _ => trivial) ?rest7
  case hy7 => (intro W hSW; (try dsimp only at hSW); go_simp; (try with_reducible rfl))
  (try simp only [Act.put, List.setIfInBounds_toArray, List.set_cons_zero, List.set_cons_succ])
  refine wpF_take0 (i := 7) (v := ?v8) rfl (by kernel_rfl) (by kernel_rfl) (by kernel_rfl) (fun _ _ _ h => h) (by kernel_rfl) (Or.inl ⟨by rfl, ?hy8⟩) (HS0.out _ hb0.out) (fun _ => trivial) ?rest8
  case hy8 => (intro W hSW; (try dsimp only at hSW); go_simp; (try with_reducible rfl))
  (try simp only [Act.put, List.setIfInBounds_toArray, List.set_cons_zero, List.set_cons_succ])
  refine wpF_take0 (i := 8) (v := ?v9) rfl (by kernel_rfl) (by kernel_rfl) (by kernel_rfl) (fun _ _ _ h => h) (by kernel_rfl) (Or.inl ⟨by rfl, ?hy9⟩) (HS0.out _ hb0.out) (fun _ => trivial) ?rest9
  case hy9 => (intro W hSW; (try dsimp only at hSW); go_simp; (try with_reducible rfl))
  (try simp only [Act.put, List.setIfInBounds_toArray, List.set_cons_zero, List.set_cons_succ])
  refine wpF_take0 (i := 9) (v := ?v10) rfl (by kernel_rfl) (by kernel_rfl) (by kernel_rfl) (fun _ _ _ h => h) (by kernel_rfl) (Or.inl ⟨by rfl, ?hy10⟩) (HS0.out _ hb0.out) (fun _ => trivial) ?rest10
  case hy10 => (intro W hSW; (try dsimp only at hSW); go_simp; (try with_reducible rfl))
  (try simp only [Act.put, List.setIfInBounds_toArray, List.set_cons_zero, List.set_cons_succ])
  refine wpF_take0 (i := 10) (v := ?v11) rfl (by kernel_rfl) (by kernel_rfl) (by kernel_rfl) (fun _ _ _ h => h) (by kernel_rfl) (Or.inl ⟨by rfl, ?hy11⟩) (HS0.out _ hb0.out) (fun _ => trivial) ?rest11
  case hy11 => (intro W hSW; (try dsimp only at hSW); go_simp; (try with_reducible rfl))
  (try simp only [Act.put, List.setIfInBounds_toArray, List.set_cons_zero, List.set_cons_succ])
  refine wpF_take0 (i := 11) (v := ?v12) rfl (by kernel_rfl) (by kernel_rfl) (by kernel_rfl) (fun _ _ _ h => h) (by kernel_rfl) (Or.inl ⟨by rfl, ?hy12⟩) (HS0.out _ hb0.out) (fun _ => trivial) ?rest12
  case hy12 => (intro W hSW; (try dsimp only at hSW); go_simp; (try with_reducible rfl))
  (try simp only [Act.put, List.setIfInBounds_toArray, List.set_cons_zero, List.set_cons_succ])
  refine wpF_step (i := 12) (by kernel_rfl) rfl (fun K hK => ?_)
  go_simp
  refine (vote_calls _ 1).mono ?_
  rintro e w4 ⟨rfl, hx⟩
  have hx4 := Lib.hid (hx0.out.trans hx)
  have hb4 := Lib.hid (blk_ext hb0.out hx)
  clear hx
  (try go_wp2_with fail)
  refine hK.out _ _ (HS0.out _ hb4.out) (fun _ => trivial) ?_
  clear hK K
  (try simp only [Act.put, List.setIfInBounds_toArray, List.set_cons_zero, List.set_cons_succ])
  refine wpF_step (i := 13) (by kernel_rfl) rfl (fun K hK => ?_)
  go_simp
  refine (same_calls _ M M _ _ (voteM 1) (voteM 1) (hm.out.ext hx4.out) (vote_V _ _ 1 HI1.out)).mono ?_
  rintro e w5 ⟨rfl, hx⟩
  rw [decide_eq_true (rfl : voteM 1 = voteM 1)]
  have hx5 := Lib.hid (hx4.out.trans hx)
  have hb5 := Lib.hid (blk_ext hb4.out hx)
  clear hx
  (try go_wp2_with fail)
  refine hK.out _ _ (HS0.out _ hb5.out) (fun _ => trivial) ?_
  clear hK K
  (try simp only [Act.put, List.setIfInBounds_toArray, List.set_cons_zero, List.set_cons_succ])
  refine wpF_take0 (i := 14) (v := ?v13) rfl (by kernel_rfl) (by kernel_rfl) (by kernel_rfl) (fun _ _ _ h => h) (by kernel_rfl) (Or.inl ⟨by rfl, ?hy13⟩) (HS0.out _ hb5.out) (fun _ => trivial) ?rest13
  case hy13 => (intro W hSW; (try dsimp only at hSW); go_simp; (try with_reducible rfl))
  (try simp only [Act.put, List.setIfInBounds_toArray, List.set_cons_zero, List.set_cons_succ])
  refine wpF_take0 (i := 15) (v := ?v14) rfl (by kernel_rfl) (by kernel_rfl) (by kernel_rfl) (fun _ _ _ h => h) (by kernel_rfl) (Or.inl ⟨by rfl, ?hy14⟩) (HS0.out _ hb5.out) (fun _ => trivial) ?rest14
  case hy14 => (intro W hSW; (try dsimp only at hSW); go_simp; (try with_reducible rfl))
  (try simp only [Act.put, List.setIfInBounds_toArray, List.set_cons_zero, List.set_cons_succ])
  refine wpF_take0 (i := 16) (v := ?v15) rfl (by kernel_rfl) (by kernel_rfl) (by kernel_rfl) (fun _ _ _ h => h) (by kernel_rfl) (Or.inl ⟨by rfl, ?hy15⟩) (HS0.out _ hb5.out) (fun _ => trivial) ?rest15
  case hy15 => (intro W hSW; (try dsimp only at hSW); go_simp; (try with_reducible rfl))
  (try simp only [Act.put, List.setIfInBounds_toArray, List.set_cons_zero, List.set_cons_succ])
  refine wpF_take0 (i := 17) (v := ?v16) rfl (by kernel_rfl) (by kernel_rfl) (by kernel_rfl) (fun _ _ _ h => h) (by kernel_rfl) (Or.inl ⟨by rfl, ?hy16⟩) (HS0.out _ hb5.out) (fun _ => trivial) ?rest16
  case hy16 => (intro W hSW; (try dsimp only at hSW); go_simp; (try with_reducible rfl))
  (try simp only [Act.put, List.setIfInBounds_toArray, List.set_cons_zero, List.set_cons_succ])
  refine wpF_take0 (i := 18) (v := ?v17) rfl (by kernel_rfl) (by kernel_rfl) (by kernel_rfl) (fun _ _ _ h => h) (by kernel_rfl) (Or.inl ⟨by rfl, ?hy17⟩) (HS0.out _ hb5.out) (fun _ => trivial) ?rest17
  case hy17 => (intro W hSW; (try dsimp only at hSW); go_simp; (try with_reducible rfl))
  (try simp only [Act.put, List.setIfInBounds_toArray, List.set_cons_zero, List.set_cons_succ])
  refine wpF_take0 (i := 19) (v := ?v18) rfl (by kernel_rfl) (by kernel_rfl) (by kernel_rfl) (fun _ _ _ h => h) (by kernel_rfl) (Or.inl ⟨by rfl, ?hy18⟩) (HS0.out _ hb5.out) (fun _ => trivial) ?rest18
  case hy18 => (intro W hSW; (try dsimp only at hSW); go_simp; (try with_reducible rfl))
  (try simp only [Act.put, List.setIfInBounds_toArray, List.set_cons_zero, List.set_cons_succ])
  refine wpF_take0 (i := 20) (v := ?v19) rfl (by kernel_rfl) (by kernel_rfl) (by kernel_rfl) (fun _ _ _ h => h) (by kernel_rfl) (Or.inl ⟨by rfl, ?hy19⟩) (HS0.out _ hb5.out) (fun _ => trivial) ?rest19
  case hy19 => (intro W hSW; (try dsimp only at hSW); go_simp; (try with_reducible rfl))
  (try simp only [Act.put, List.setIfInBounds_toArray, List.set_cons_zero, List.set_cons_succ])
  refine wpF_step (i := 21) (by kernel_rfl) rfl (fun K hK => ?_)
  go_simp
  refine (NetLose_calls _ g B bag4 2 HI2.out (hn.out.ext hx5.out)).mono ?_
  rw [bag4_lose]
  rintro e w6 ⟨rfl, hn6, hu6⟩
  have hn6 := Lib.hid hn6
  have hb6 := Lib.hid (blk_upd hb5.out hu6 HQG.out)
  have hu6 := Lib.hid ((hx5.out.upd (fun b => b = g)).trans hu6)
  (try go_wp2_with fail)
  refine hK.out _ _ (HS0.out _ hb6.out) (fun _ => trivial) ?_
  clear hK K
  (try simp only [Act.put, List.setIfInBounds_toArray, List.set_cons_zero, List.set_cons_succ])
  refine wpF_take0 (i := 22) (v := ?v20) rfl (by kernel_rfl) (by kernel_rfl) (by kernel_rfl) (fun _ _ _ h => h) (by kernel_rfl) (Or.inl ⟨by rfl, ?hy20⟩) (HS0.out _ hb6.out) (fun _ => trivial) ?rest20
  case hy20 => (intro W hSW; (try dsimp only at hSW); go_simp; (try with_reducible rfl))
  (try simp only [Act.put, List.setIfInBounds_toArray, List.set_cons_zero, List.set_cons_succ])
  refine wpF_take0 (i := 23) (v := ?v21) rfl (by kernel_rfl) (by kernel_rfl) (by kernel_rfl) (fun _ _ _ h => h) (by kernel_rfl) (Or.inl ⟨by rfl, ?hy21⟩) (HS0.out _ hb6.out) (fun _ => trivial) ?rest21
  case hy21 => (intro W hSW; (try dsimp only at hSW); go_simp; (try with_reducible rfl))
  (try simp only [Act.put, List.setIfInBounds_toArray, List.set_cons_zero, List.set_cons_succ])
  refine wpF_take0 (i := 24) (v := ?v22) rfl (by kernel_rfl) (by kernel_rfl) (by kernel_rfl) (fun _ _ _ h => h) (by kernel_rfl) (Or.inl ⟨by rfl, ?hy22⟩) (HS0.out _ hb6.out) (fun _ => trivial) ?rest22
  case hy22 => (intro W hSW; (try dsimp only at hSW); go_simp; (try with_reducible rfl))
  (try simp only [Act.put, List.setIfInBounds_toArray, List.set_cons_zero, List.set_cons_succ])
  refine wpF_take0 (i := 25) (v := ?v23) rfl (by kernel_rfl) (by kernel_rfl) (by kernel_rfl) (fun _ _ _ h => h) (by kernel_rfl) (Or.inl ⟨by rfl, ?hy23⟩) (HS0.out _ hb6.out) (fun _ => trivial) ?rest23
  case hy23 => (intro W hSW; (try dsimp only at hSW); go_simp; (try with_reducible rfl))
  (try simp only [Act.put, List.setIfInBounds_toArray, List.set_cons_zero, List.set_cons_succ])
  refine wpF_step2 (i := 26) (j := 27) (by kernel_rfl) rfl rfl (fun K hK => ?_) (fun K hK => ?_)
  · go_simp
    refine (NetList_calls _ g _ bag5 (hn6.out)).mono ?_
    rintro e w7 ⟨u7, rfl, ho7, hx7⟩
    have hb7 := Lib.hid (blk_ext hb6.out hx7)
    (try go_wp2_with fail)
    refine hK.out _ _ (HS0.out _ hb7.out) (fun _ => trivial) ?_
    clear hK K
    (try simp only [Act.put, List.setIfInBounds_toArray, List.set_cons_zero, List.set_cons_succ])
    have hb8 := Lib.hid (blk_ext hb7.out ((Ext.refl w7).alloc (.cells #[.int .i64 3] 3)))
    have hu8 := Lib.hid ((hu6.out.trans (hx7.upd _)).alloc (.cells #[.int .i64 3] 3))
    refine wpF_step (i := 27) (by kernel_rfl) rfl (fun K hK => ?_)
    go_simp
    refine hK.out _ _ (HS0.out _ hb8.out) (fun _ => trivial) ?_
    clear hK K
    (try simp only [Act.put, List.setIfInBounds_toArray, List.set_cons_zero, List.set_cons_succ])
    refine wpF_step (i := 28) (by kernel_rfl) rfl (fun K hK => ?_)
    go_simp
    refine (EqualI_calls _ _ _ _ _ [3] [3] (ho7.rs.alloc _) (Rs.one_int _ _ _ rfl 3 ⟨by decide, by decide⟩)).mono ?_
    rintro e w9 ⟨he, n9, rfl⟩
    have he' : e = .returned (.bool true) := he
    subst he'
    clear he
    have hb9 := Lib.hid (show ((w7.alloc (.cells #[.int .i64 3] 3)).drewN n9).heap[q]? = some (.cells (msgC (voteM 1) (.slice A1 x1 c1) (.slice A2 x2 c2) (.slice A3 x3 c3)) 26 (0, 0)) from hb8.out)
    have hu9 := Lib.hid (hu8.out.drewN n9)
    (try go_wp2_with fail)
    refine hK.out _ _ (HS0.out _ hb9.out) (fun _ => trivial) ?_
    clear hK K
    (try simp only [Act.put, List.setIfInBounds_toArray, List.set_cons_zero, List.set_cons_succ])
    refine wpF_take0 (i := 29) (v := ?v24) rfl (by kernel_rfl) (by kernel_rfl) (by kernel_rfl) (fun _ _ _ h => h) (by kernel_rfl) (Or.inl ⟨by rfl, ?hy24⟩) (HS0.out _ hb9.out) (fun _ => trivial) ?rest24
    case hy24 => (intro W hSW; (try dsimp only at hSW); go_simp; (try with_reducible rfl))
    (try simp only [Act.put, List.setIfInBounds_toArray, List.set_cons_zero, List.set_cons_succ])
    refine wpF_take0 (i := 30) (v := ?v25) rfl (by kernel_rfl) (by kernel_rfl) (by kernel_rfl) (fun _ _ _ h => h) (by kernel_rfl) (Or.inl ⟨by rfl, ?hy25⟩) (HS0.out _ hb9.out) (fun _ => trivial) ?rest25
    case hy25 => (intro W hSW; (try dsimp only at hSW); go_simp; (try with_reducible rfl))
    (try simp only [Act.put, List.setIfInBounds_toArray, List.set_cons_zero, List.set_cons_succ])
    refine wpF_done (by kernel_rfl) ?_ _
    refine NoPanic.normal ?_
    exact hK2.out _ _ _ _ _ _ _ _ _ _ _ _ _ _ _ _ _ _ _ _ _ _ _ _ _ _ _ _ _ _ _  hu9
  · have hb7a := Lib.hid (blk_ext hb6.out ((Ext.refl w6).alloc (.cells #[.int .i64 3] 3)))
    go_simp
    refine hK.out _ _ (HS0.out _ hb7a.out) (fun _ => trivial) ?_
    clear hK K
    (try simp only [Act.put, List.setIfInBounds_toArray, List.set_cons_zero, List.set_cons_succ])
    refine wpF_step (i := 26) (by kernel_rfl) rfl (fun K hK => ?_)
    go_simp
    refine (NetList_calls _ g _ bag5 (hn6.out.ext ((Ext.refl w6).alloc (.cells #[.int .i64 3] 3)))).mono ?_
    rintro e w7 ⟨u7, rfl, ho7, hx7⟩
    have hb7 := Lib.hid (blk_ext hb7a.out hx7)
    (try go_wp2_with fail)
    refine hK.out _ _ (HS0.out _ hb7.out) (fun _ => trivial) ?_
    clear hK K
    (try simp only [Act.put, List.setIfInBounds_toArray, List.set_cons_zero, List.set_cons_succ])
    have hb8 := hb7
    have hu8 := Lib.hid ((hu6.out.alloc (.cells #[.int .i64 3] 3)).trans (hx7.upd _))
    refine wpF_step (i := 28) (by kernel_rfl) rfl (fun K hK => ?_)
    go_simp
    refine (EqualI_calls _ _ _ _ _ [3] [3] ho7.rs ((Rs.one_int _ _ _ rfl 3 ⟨by decide, by decide⟩).ext hx7)).mono ?_
    rintro e w9 ⟨he, n9, rfl⟩
    have he' : e = .returned (.bool true) := he
    subst he'
    clear he
    have hb9 := Lib.hid (show (w7.drewN n9).heap[q]? = some (.cells (msgC (voteM 1) (.slice A1 x1 c1) (.slice A2 x2 c2) (.slice A3 x3 c3)) 26 (0, 0)) from hb8.out)
    have hu9 := Lib.hid (hu8.out.drewN n9)
    (try go_wp2_with fail)
    refine hK.out _ _ (HS0.out _ hb9.out) (fun _ => trivial) ?_
    clear hK K
    (try simp only [Act.put, List.setIfInBounds_toArray, List.set_cons_zero, List.set_cons_succ])
    refine wpF_take0 (i := 29) (v := ?v26) rfl (by kernel_rfl) (by kernel_rfl) (by kernel_rfl) (fun _ _ _ h => h) (by kernel_rfl) (Or.inl ⟨by rfl, ?hy26⟩) (HS0.out _ hb9.out) (fun _ => trivial) ?rest26
    case hy26 => (intro W hSW; (try dsimp only at hSW); go_simp; (try with_reducible rfl))
    (try simp only [Act.put, List.setIfInBounds_toArray, List.set_cons_zero, List.set_cons_succ])
    refine wpF_take0 (i := 30) (v := ?v27) rfl (by kernel_rfl) (by kernel_rfl) (by kernel_rfl) (fun _ _ _ h => h) (by kernel_rfl) (Or.inl ⟨by rfl, ?hy27⟩) (HS0.out _ hb9.out) (fun _ => trivial) ?rest27
    case hy27 => (intro W hSW; (try dsimp only at hSW); go_simp; (try with_reducible rfl))
    (try simp only [Act.put, List.setIfInBounds_toArray, List.set_cons_zero, List.set_cons_succ])
    refine wpF_done (by kernel_rfl) ?_ _
    refine NoPanic.normal ?_
    exact hK2.out _ _ _ _ _ _ _ _ _ _ _ _ _ _ _ _ _ _ _ _ _ _ _ _ _ _ _ _ _ _ _  hu9
end Go.Proofs.Ytfflcnlgkbgbhaa
set_option linter.unusedVariables false
set_option linter.unusedSimpArgs false
namespace Go.Proofs.Ytfflcnlgkbgbhaa
open Go.RowKit

set_option maxRecDepth 1000000 in
set_option maxHeartbeats 8000000 in
theorem awake_calls (w : World) : Calls Try.prog 11 #[] w fun e w' => e = .returned (.bool true) ∧ Ext w w' := by
  go_enter Try.func11, Try.ntmps11
  go_wp2_with fail
  refine (NetNew_calls w).mono ?_
  rintro e w1 ⟨rfl, hn, hx⟩
  have HN := Lib.hid hn
  have HX1 := Lib.hid hx
  obtain ⟨g, hg⟩ : ∃ g, g = w.heap.size := ⟨_, rfl⟩
  rw [← hg] at HN ⊢
  have HG := Lib.hid hg
  clear hn hx hg
  go_wp2_with fail
  refine (vote_calls _ 1).mono ?_
  rintro e w2 ⟨rfl, hx⟩
  have HX2 := Lib.hid hx
  clear hx
  go_wp2_with fail
  refine (vote_calls _ 2).mono ?_
  rintro e w3 ⟨rfl, hx⟩
  have HX3 := Lib.hid (HX2.out.trans hx)
  clear hx HX2
  dsimp only [msgC]
  go_wp2_with fail
  obtain ⟨w4, hw4⟩ : ∃ w4, w4 = w3.alloc (.cells (msgC (voteM 1) (.slice none 0 0) (.slice none 0 0) (.slice none 0 0) ++ msgC (voteM 2) (.slice none 0 0) (.slice none 0 0) (.slice none 0 0)) 26) := ⟨_, rfl⟩
  have hb4 : w4.heap[w3.heap.size]? = some (.cells (msgC (voteM 1) (.slice none 0 0) (.slice none 0 0) (.slice none 0 0) ++ msgC (voteM 2) (.slice none 0 0) (.slice none 0 0) (.slice none 0 0)) 26 (0, 0)) := by rw [hw4]; exact heap_new w3 _ rfl _
  have hx4 : Ext w1 w4 := by rw [hw4]; exact HX3.out.alloc _
  have hgl : g < w1.heap.size := HN.out.lt
  have hr4 := Rs.two_msg (T := (w1.heap.size ≤ ·)) hb4 HX3.out.le (vote_V w4 _ 1 ⟨by decide, by decide⟩) (vote_V w4 _ 2 ⟨by decide, by decide⟩)
  have hn4 := (HN.out.mono (B' := (g + 1 ≤ ·)) (fun b hb => hb.elim) (by omega)).ext hx4
  change Calls _ _ _ (w3.alloc (.cells (msgC (voteM 1) (.slice none 0 0) (.slice none 0 0) (.slice none 0 0) ++ msgC (voteM 2) (.slice none 0 0) (.slice none 0 0) (.slice none 0 0)) 26)) _
  rw [← hw4]
  refine (NetSend_calls w4 g (g + 1 ≤ ·) (w1.heap.size ≤ ·) bag0 _ [voteM 1, voteM 2] (by decide) hn4 (by omega) hr4).mono ?_
  rw [bag_s]
  rintro e w5 ⟨rfl, hn, hu⟩
  have hl4 := hx4.le
  have HN5 := Lib.hid (hn.mono (B' := (g + 1 ≤ ·)) (fun b hb => hb.elim (fun h => by omega) (fun h => h)) (by omega))
  have HX5 := Lib.hid (show Ext w w5 from hu.ext (HX1.out.trans hx4) (fun k hk => by have hk' : k = g := hk; have := HG.out; omega))
  clear hn hu hw4 hb4 hx4 hgl hr4 hn4 hl4 HN HX1 HX3
  dsimp only
  go_wp2_with fail
  refine (NetDouble_calls w5 g (g + 1 ≤ ·) bag2 1 ⟨by decide, by decide⟩ (by decide) HN5.out).mono ?_
  rw [bag_d]
  rintro e w6 ⟨rfl, hn, hu⟩
  have hl := HN5.out.lt
  have HN6 := Lib.hid (hn.mono (B' := (g + 1 ≤ ·)) (fun b hb => hb.elim (fun h => by omega) (fun h => h)) (by omega))
  have HX6 := Lib.hid (show Ext w w6 from hu.ext HX5.out (fun k hk => by have hk' : k = g := hk; have := HG.out; omega))
  clear hn hu hl HN5 HX5
  dsimp only
  go_wp2_with fail
  refine (NetTake_calls w6 g (g + 1 ≤ ·) bag3 1 ⟨by decide, by decide⟩ HN6.out).mono ?_
  rw [bag3_peek, bag3_lose]
  rintro e w7 ⟨mv, rfl, hm, hn, hu⟩
  have hl := HN6.out.lt
  have HN7 := Lib.hid (hn.mono (B' := (g + 1 ≤ ·)) (fun b hb => hb.elim (fun h => by omega) (fun h => h)) (by omega))
  have HX7 := Lib.hid (show Ext w w7 from hu.ext HX6.out (fun k hk => by have hk' : k = g := hk; have := HG.out; omega))
  have HM := Lib.hid (hm.mono (S' := (g + 1 ≤ ·)) (fun b hb => by have hb' : w6.heap.size ≤ b := hb; omega))
  obtain ⟨Ae, ce, Av, cv, Ad, cd, rfl, -⟩ := hm.form
  clear hn hu hl hm HN6 HX6
  dsimp only [msgC]
  go_upto_region 5 with fail
  obtain ⟨w8, hw8⟩ : ∃ w8, w8 = w7.alloc (.cells (msgC (voteM 1) (.slice Ae (voteM 1).entries.length ce) (.slice Av (voteM 1).voters.length cv) (.slice Ad (voteM 1).data.length cd)) 26) := ⟨_, rfl⟩
  have HB8 := Lib.hid (show w8.heap[w7.heap.size]? = some (.cells (msgC (voteM 1) (.slice Ae (voteM 1).entries.length ce) (.slice Av (voteM 1).voters.length cv) (.slice Ad (voteM 1).data.length cd)) 26 (0, 0)) by rw [hw8]; exact heap_new w7 _ rfl _)
  have HE8 := Lib.hid (show Ext w7 w8 by rw [hw8]; exact (Ext.refl w7).alloc _)
  have HM8 := Lib.hid (HM.out.ext HE8.out)
  have HN8 := Lib.hid (HN7.out.ext HE8.out)
  have HX8 := Lib.hid (HX7.out.trans HE8.out)
  have HQ := Lib.hid (show w7.heap.size ≠ g by have := HN7.out.lt; omega)
  unfold msgC at hw8
  rw [← hw8]
  obtain ⟨q, hq⟩ : ∃ q, q = w7.heap.size := ⟨_, rfl⟩
  rw [← hq] at HB8 HQ ⊢
  clear hw8 hq HM HN7 HX7 HE8
  go_wp2_with fail
  refine (NetPeek_calls w8 g (g + 1 ≤ ·) bag4 1 ⟨by decide, by decide⟩ HN8.out).mono ?_
  rw [bag4_peek]
  rintro e w9 ⟨mv, rfl, hm, hx⟩
  have HB9 := Lib.hid (blk_ext HB8.out hx)
  have HM9 := Lib.hid (HM8.out.ext hx)
  have HN9 := Lib.hid (HN8.out.ext hx)
  have HX9 := Lib.hid (HX8.out.trans hx)
  obtain ⟨Be, de, Bv, dv, Bd, dd, rfl, -⟩ := hm.form
  clear hx hm HB8 HM8 HN8 HX8
  dsimp only [msgC]
  go_upto_region 6 with fail
  obtain ⟨w10, hw10⟩ : ∃ w10, w10 = w9.alloc (.cells (msgC zeroM (.slice Be zeroM.entries.length de) (.slice Bv zeroM.voters.length dv) (.slice Bd zeroM.data.length dd)) 26) := ⟨_, rfl⟩
  have HE10 := Lib.hid (show Ext w9 w10 by rw [hw10]; exact (Ext.refl w9).alloc _)
  unfold msgC at hw10
  rw [← hw10]
  clear hw10
  refine aw6 g q (g + 1 ≤ ·) (g + 1 ≤ ·) _ _ _ ⟨_, _, _, _, _, _, _, _, _, rfl, rfl, rfl⟩ (Lib.hid (blk_ext HB9.out HE10.out)) (Lib.hid (HM9.out.ext HE10.out)) HQ.out (Lib.hid (HN9.out.ext HE10.out)) ?_
  intros
  rename_i wx hrel
  have HXX := Lib.hid (show Ext w wx from hrel.out.ext (HX9.out.trans HE10.out) (fun k hk => by have hk' : k = g := hk; have := HG.out; omega))
  clear hrel
  go_wp2_with fail
  go_ret
  exact ⟨rfl, HXX.out⟩
end Go.Proofs.Ytfflcnlgkbgbhaa
