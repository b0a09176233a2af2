/-
  Texts of this claim, put together: BagSd, Bag2, MsgLw.
-/
import Derived.Test.YtfflcnlgkbgbhaaZ12
import Derived.Test.YtfflcnlgkbgbhaaZ8
import Derived.Test.YtfflcnlgkbgbhaaZ3
import Derived.Test.YtfflcnlgkbgbhaaZ10
import Derived.Test.YtfflcnlgkbgbhaaZ11
set_option linter.unusedVariables false
set_option linter.unusedSimpArgs false
namespace Go.Proofs.Ytfflcnlgkbgbhaa
open Go.RowKit

theorem Rs.one_par {W : World} {T : Nat → Prop} {g : Nat} {t : TypeId} {i : Int} {vd : Value} {d : List UInt8} (hb : W.heap[g]? = some (.cells #[.int .i64 i, vd] t (0, 0))) (hS : T g) (hd : Rs kByte W T vd d) (hi : I64 i) :
    Rs kPar W T (.slice (some ⟨g, 0, none⟩) 1 1) [(i, d)] :=
  ⟨_, 1, rfl, by simp, by omega, by simp, Row.of_block hb hS fun j x hj => by
    match j, hj with
    | 0, hj =>
      simp at hj; subst hj
      refine ⟨_, kPar_iff.2 ⟨_, rfl, hd, hi⟩, fun i u hi => ?_⟩
      simp only [Nat.zero_mul, Nat.zero_add]
      simpa using hi⟩
/-- The region's first half. -/
theorem wpF_step2 {P : Program} {md : Region.Mode} {ops : Array Oper} {Q : Exit → Act → World → Prop} {S0 S1 : World → Prop} {f : Nat} {i j : Nat} {o o' : Oper} {tl tl' : List Oper} {fuel : Nat} {listed : Array Bool} {a : Act} {w : World} (hr : Region.ready md ops listed = [i, j]) (ho : ops.toList.drop i = o :: tl) (ho' : ops.toList.drop j = o' :: tl')
    (h : ∀ K' : Act → World → Prop, Hid (∀ a w, S0 w → ((listed.setIfInBounds i true).getD f true = false → S1 w) → wpF P md ops Q S0 S1 f fuel (listed.setIfInBounds i true) a w → K' a w) → if Region.wanted o (yielded ops a.tmps) = true then Oper.wp P o a w K' Q else K' (a.put o.dst undef) w)
    (h' : ∀ K' : Act → World → Prop, Hid (∀ a w, S0 w → ((listed.setIfInBounds j true).getD f true = false → S1 w) → wpF P md ops Q S0 S1 f fuel (listed.setIfInBounds j true) a w → K' a w) → if Region.wanted o' (yielded ops a.tmps) = true then Oper.wp P o' a w K' Q else K' (a.put o'.dst undef) w) :
    wpF P md ops Q S0 S1 f (fuel + 1) listed a w := by
  refine ⟨fun h0 => (by rw [hr] at h0; cases h0), fun k hk => ?_⟩
  rw [hr] at hk
  rcases List.mem_cons.1 hk with rfl | hk
  · exact wpOp_step (op_at ho) fun K' hK => h K' (Lib.hid fun a w h0 h1 h2 => hK a w ⟨⟨h0, h1⟩, h2⟩)
  · obtain rfl : k = j := by simpa using hk
    exact wpOp_step (op_at ho') fun K' hK => h' K' (Lib.hid fun a w h0 h1 h2 => hK a w ⟨⟨h0, h1⟩, h2⟩)

theorem parcels_put {s : BagS} (h : BagOk s) (m : MsgS) : parcels ⟨s.ms ++ [m], s.ids ++ [s.last + 1], s.last + 1⟩ = parcels s ++ [(s.last + 1, (putM m).1)] := by
  unfold parcels
  simp only [List.map_append, List.map_cons, List.map_nil]
  rw [List.zip_append (by rw [List.length_map, h.len])]
  rfl

set_option maxRecDepth 1000000 in
set_option maxHeartbeats 4000000 in
theorem sd10 {K : Act → World → Prop} {Q : Exit → Act → World → Prop} {w : World} {c1 c2 c3 c4 c5 c6 c7 c9 c10 c11 c12 c13 c14 c15 c16 c17 c18 c19 c20 c21 c22 c23 c24 c25 c26 c27 c28 c29 c30 c31 c32 c33 c34 c35 c36 c37 c38 c39 c40 c41 c42 c43 c44 c45 c46 c47 c48 c49 c50 c51 c52 c53 c54 c55 c56 c57 c58 c59 c60 c61 c62 c63 c64 c65 c66 : Value} (g : Nat) (B D : Nat → Prop) (s : BagS) (m : MsgS) (A Ad : Option Addr) (c ld cd : Nat) (hb : Hid (w.heap[g]? = some (.cells #[.slice A s.ids.length c, .int .i64 (s.last + 1), .bool true] 62 (0, 0)))) (hr : Hid (Rs kPar w B (.slice A s.ids.length c) (parcels s))) (hd : Hid (Rs kByte w D (.slice Ad ld cd) (putM m).1)) (hB : ¬ B g) (hD : ¬ D g) (hok : BagOk s) (hm : chkM m = true) (h256 : s.ms.length < 256) (hlast : s.last + 1 ≤ 4611686018427387904)
    (hK : ∀ (u47 u48 u49 u50 u51 u52 u53 u54 u55 u56 u57 u58 u59 u60 u61 u62 : Value) (wx : World), Hid (NetR wx g (fun b => w.heap.size ≤ b ∨ B b ∨ D b) ⟨s.ms ++ [m], s.ids ++ [s.last + 1], s.last + 1⟩ ∧ Upd (fun b => b = g) w wx) → K ⟨#[.pointer (some ⟨g, 0, none⟩), c1, c2, c3, c4, c5, c6, c7, .slice Ad ld cd, c9, c10, c11, c12, c13, c14, c15, c16, c17, c18, c19, c20, c21, c22, c23, c24, c25, c26, c27, c28, c29, c30, c31, c32, c33, c34, c35, c36, c37, c38, c39, c40, c41, c42, c43, c44, c45, c46, u47, u48, u49, u50, u51, u52, u53, u54, u55, u56, u57, u58, u59, u60, u61, u62, c63, c64, c65, c66], []⟩ wx) :
    Code.wp Try.prog ((Try.f30.body.bind (regionAt 10)).getD .skip) (Exit.then K Q) ⟨#[.pointer (some ⟨g, 0, none⟩), c1, c2, c3, c4, c5, c6, c7, .slice Ad ld cd, c9, c10, c11, c12, c13, c14, c15, c16, c17, c18, c19, c20, c21, c22, c23, c24, c25, c26, c27, c28, c29, c30, c31, c32, c33, c34, c35, c36, c37, c38, c39, c40, c41, c42, c43, c44, c45, c46, c47, c48, c49, c50, c51, c52, c53, c54, c55, c56, c57, c58, c59, c60, c61, c62, c63, c64, c65, c66], []⟩ w := by
  conv => arg 2; whnf
  have hK2 := Lib.hid @hK
  have HS0 := Lib.hid (show ∀ W : World, W.heap[g]? = some (.cells #[.slice A s.ids.length c, .int .i64 (s.last + 1), .bool true] 62 (0, 0)) → W.cell? ⟨g, 1, none⟩ = some (.int .i64 (s.last + 1)) ∧ W.frozen? ⟨g, 0, none⟩ = false from fun W h => ⟨cell_blk h 1, frozen_blk h 0⟩)
  have HS1 := Lib.hid (show ∀ W : World, W.heap[g]? = some (.cells #[.slice A s.ids.length c, .int .i64 (s.last + 1), .bool true] 62 (0, 0)) → W.cell? ⟨g, 0, none⟩ = some (.slice A s.ids.length c) from fun W h => cell_blk h 0)
  have HSZ := Lib.hid (show (parcels s).length * 32 ≤ 140737488355328 by rw [parcels_len hok, hok.len]; omega)
  have HPL := Lib.hid (show ((parcels s).length + [(s.last + 1, (putM m).1)].length) * 32 ≤ 140737488355328 by rw [parcels_len hok, hok.len]; simp; omega)
  have HI := Lib.hid (show I64 (s.last + 1) by have := hok.lo; exact ⟨by omega, by omega⟩)
  have HGL := Lib.hid (blk_lt hb.out)
  have HFIN := Lib.hid (show ∀ (W : World) (v' : Value), W.heap[g]? = some (.cells #[.slice A s.ids.length c, .int .i64 (s.last + 1), .bool true] 62 (0, 0)) → Rs kPar W (fun b => w.heap.size ≤ b ∨ B b ∨ D b) v' (parcels s ++ [(s.last + 1, (putM m).1)]) → NetR (W.setCell ⟨g, 0, none⟩ v') g (fun b => w.heap.size ≤ b ∨ B b ∨ D b) ⟨s.ms ++ [m], s.ids ++ [s.last + 1], s.last + 1⟩ from fun W v' hW hR => by
    have hnS : ¬ (w.heap.size ≤ g ∨ B g ∨ D g) := by have := HGL.out; rintro (h | h | h); omega; exact hB h; exact hD h
    have hok2 : BagOk ⟨s.ms ++ [m], s.ids ++ [s.last + 1], s.last + 1⟩ := by
      have h := step_ok (a := (s, 0)) hok m
      unfold BagS.step at h
      rw [if_pos ⟨hm, h256⟩] at h
      exact h
    obtain ⟨A', c', e, _⟩ := id hR
    have hlen : (parcels s ++ [(s.last + 1, (putM m).1)]).length = (s.ids ++ [s.last + 1]).length := by rw [← parcels_put hok, parcels_len hok2]
    rw [hlen] at e
    subst e
    refine ⟨A', c', heap_setCell_same W g 0 _ _ _ hW, ?_, hok2, hlast, hnS⟩
    rw [parcels_put hok]
    exact hR.seti (g := g) (i := 0) hnS _)
  clear hK hok hm h256 hlast
  have hb0 := Lib.hid (show w.drew.heap[g]? = some (.cells #[.slice A s.ids.length c, .int .i64 (s.last + 1), .bool true] 62 (0, 0)) from hb.out)
  refine wpF_region (fun W => W.cell? ⟨g, 1, none⟩ = some (.int .i64 (s.last + 1)) ∧ W.frozen? ⟨g, 0, none⟩ = false) (fun W => W.cell? ⟨g, 0, none⟩ = some (.slice A s.ids.length c)) 5 17 (by kernel_rfl) (by kernel_rfl) ?_
  refine wpF_take0 (i := 0) (v := ?v1) rfl (by kernel_rfl) (by kernel_rfl) (by kernel_rfl) (fun _ _ _ h => h) (by kernel_rfl) (Or.inl ⟨by rfl, ?hy1⟩) (HS0.out _ hb0.out) (fun _ => HS1.out _ hb0.out) ?rest1
  case hy1 => (intro W hSW; (try dsimp only at hSW); go_simp; (try with_reducible rfl))
  (try simp only [Act.put, List.setIfInBounds_toArray, List.set_cons_zero, List.set_cons_succ])
  refine wpF_take0 (i := 1) (v := ?v2) rfl (by kernel_rfl) (by kernel_rfl) (by kernel_rfl) (fun _ _ _ h => h) (by kernel_rfl) (Or.inl ⟨by rfl, ?hy2⟩) (HS0.out _ hb0.out) (fun _ => HS1.out _ hb0.out) ?rest2
  case hy2 => (intro W hSW; (try dsimp only at hSW); go_simp; (try with_reducible rfl))
  (try simp only [Act.put, List.setIfInBounds_toArray, List.set_cons_zero, List.set_cons_succ])
  refine wpF_take0 (i := 2) (v := ?v3) rfl (by kernel_rfl) (by kernel_rfl) (by kernel_rfl) (fun _ _ _ h => h) (by kernel_rfl) (Or.inl ⟨by rfl, ?hy3⟩) (HS0.out _ hb0.out) (fun _ => HS1.out _ hb0.out) ?rest3
  case hy3 => (intro W hSW; (try dsimp only at hSW); go_simp; (try with_reducible rfl))
  (try simp only [Act.put, List.setIfInBounds_toArray, List.set_cons_zero, List.set_cons_succ])
  refine wpF_take0 (i := 3) (v := ?v4) rfl (by kernel_rfl) (by kernel_rfl) (by kernel_rfl) (fun _ _ _ h => h) (by kernel_rfl) (Or.inl ⟨by rfl, ?hy4⟩) (HS0.out _ hb0.out) (fun _ => HS1.out _ hb0.out) ?rest4
  case hy4 => (intro W hSW; (try dsimp only at hSW); go_simp; (try with_reducible rfl))
  (try simp only [Act.put, List.setIfInBounds_toArray, List.set_cons_zero, List.set_cons_succ])
  refine wpF_take1 (i := 4) (v := ?v5) rfl (by kernel_rfl) (by kernel_rfl) (by kernel_rfl) (fun _ _ _ h => h) (by kernel_rfl) (by kernel_rfl) (by kernel_rfl) (Or.inl ⟨by rfl, ?hy5⟩) (HS0.out _ hb0.out) (fun _ => HS1.out _ hb0.out) ?rest5
  case hy5 => (intro W hSW; (try dsimp only at hSW); go_simp; (try with_reducible rfl))
  (try simp only [Act.put, List.setIfInBounds_toArray, List.set_cons_zero, List.set_cons_succ])
  refine wpF_take0 (i := 6) (v := ?v6) rfl (by kernel_rfl) (by kernel_rfl) (by kernel_rfl) (fun _ _ _ h => h) (by kernel_rfl) (Or.inl ⟨by rfl, ?hy6⟩) (HS0.out _ hb0.out) (fun _ => HS1.out _ hb0.out) ?rest6
  case hy6 => (intro W hSW; (try dsimp only at hSW); go_simp; (try with_reducible rfl))
  (try simp only [Act.put, List.setIfInBounds_toArray, List.set_cons_zero, List.set_cons_succ])
  refine wpF_take0 (i := 7) (v := ?v7) rfl (by kernel_rfl) (by kernel_rfl) (by kernel_rfl) (fun _ _ _ h => h) (by kernel_rfl) (Or.inl ⟨by rfl, ?hy7⟩) (HS0.out _ hb0.out) (fun _ => HS1.out _ hb0.out) ?rest7
  case hy7 => (intro W hSW; (try dsimp only at hSW); go_simp; (try with_reducible rfl))
  (try simp only [Act.put, List.setIfInBounds_toArray, List.set_cons_zero, List.set_cons_succ])
  refine wpF_take0 (i := 8) (v := ?v8) rfl (by kernel_rfl) (by kernel_rfl) (by kernel_rfl) (fun _ _ _ h => h) (by kernel_rfl) (Or.inl ⟨by rfl, ?hy8⟩) (HS0.out _ hb0.out) (fun _ => HS1.out _ hb0.out) ?rest8
  case hy8 => (intro W hSW; (try dsimp only at hSW); go_simp; (try with_reducible rfl))
  (try simp only [Act.put, List.setIfInBounds_toArray, List.set_cons_zero, List.set_cons_succ])
  refine wpF_take0 (i := 9) (v := ?v9) rfl (by kernel_rfl) (by kernel_rfl) (by kernel_rfl) (fun _ _ _ h => h) (by kernel_rfl) (Or.inl ⟨by rfl, ?hy9⟩) (HS0.out _ hb0.out) (fun _ => HS1.out _ hb0.out) ?rest9
  case hy9 => (intro W hSW; (try dsimp only at hSW); go_simp; (try with_reducible rfl))
  (try simp only [Act.put, List.setIfInBounds_toArray, List.set_cons_zero, List.set_cons_succ])
  refine wpF_take0 (i := 10) (v := ?v10) rfl (by kernel_rfl) (by kernel_rfl) (by kernel_rfl) (fun _ _ _ h => h) (by kernel_rfl) (Or.inl ⟨by rfl, ?hy10⟩) (HS0.out _ hb0.out) (fun _ => HS1.out _ hb0.out) ?rest10
  case hy10 => (intro W hSW; (try dsimp only at hSW); go_simp; (try with_reducible rfl))
  (try simp only [Act.put, List.setIfInBounds_toArray, List.set_cons_zero, List.set_cons_succ])
  refine wpF_take0 (i := 11) (v := ?v11) rfl (by kernel_rfl) (by kernel_rfl) (by kernel_rfl) (fun _ _ _ h => h) (by kernel_rfl) (Or.inl ⟨by rfl, ?hy11⟩) (HS0.out _ hb0.out) (fun _ => HS1.out _ hb0.out) ?rest11
  case hy11 => (intro W hSW; (try dsimp only at hSW); go_simp; (try with_reducible rfl))
  (try simp only [Act.put, List.setIfInBounds_toArray, List.set_cons_zero, List.set_cons_succ])
  refine wpF_step2 (i := 5) (j := 12) (by kernel_rfl) rfl rfl (fun K hK => ?_) (fun K hK => ?_)
  · go_simp
    refine (ClonePar_calls _ B _ _ (hr.out.ext ((Ext.refl w).drew)) HSZ.out).mono ?_
    rintro e w4 ⟨u4, rfl, ho4, hx4⟩
    (try go_wp2_with fail)
    have hb4 := Lib.hid (blk_ext hb0.out hx4)
    refine hK.out _ _ (HS0.out _ hb4.out) (gone (by kernel_rfl)) ?_
    clear hK K
    (try simp only [Act.put, List.setIfInBounds_toArray, List.set_cons_zero, List.set_cons_succ])
    have hb5 := Lib.hid (blk_ext hb4.out ((Ext.refl w4).alloc (.cells #[.int .i64 (s.last + 1), .slice Ad ld cd] 96)))
    refine wpF_step (i := 12) (by kernel_rfl) rfl (fun K hK => ?_)
    go_simp
    refine hK.out _ _ (HS0.out _ hb5.out) (gone (by kernel_rfl)) ?_
    clear hK K
    (try simp only [Act.put, List.setIfInBounds_toArray, List.set_cons_zero, List.set_cons_succ])
    have hlt4 := ho4.lt
    have hfr4 := ho4.from_
    have how := (ho4.mono (S' := fun b => w.heap.size ≤ b ∨ B b ∨ D b) (fun b hb => hb.elim .inl fun h => .inr (.inl h))).alloc (.cells #[.int .i64 (s.last + 1), .slice Ad ld cd] 96)
    have hrd := Rs.one_par (T := fun b => b = w4.heap.size ∨ D b) (heap_new w4 _ rfl (.cells #[.int .i64 (s.last + 1), .slice Ad ld cd] 96)) (.inl rfl) (((hd.out.ext (((Ext.refl w).drew).trans hx4)).mono (fun b hb => .inr hb)).alloc (.cells #[.int .i64 (s.last + 1), .slice Ad ld cd] 96)) HI.out
    have hrdb := hrd.bound
    have hdb : ∀ b, (b = w4.heap.size ∨ (D b ∧ b < w.heap.size)) → (w.heap.size ≤ b ∨ B b ∨ D b) ∧ some b ≠ u4.ownBlock := fun b hb => by
      have h1 := hx4.le
      have h2 : w.drew.heap.size = w.heap.size := rfl
      rcases hb with rfl | ⟨hb, hbl⟩
      · exact ⟨.inl (by omega), fun e => by have := hlt4 _ e.symm; omega⟩
      · exact ⟨.inr (.inr hb), fun e => by have := hfr4 _ e.symm; omega⟩
    have hrd2 := Rs.one_par (T := fun b => b = w4.heap.size ∨ (D b ∧ b < w.heap.size)) (heap_new w4 _ rfl (.cells #[.int .i64 (s.last + 1), .slice Ad ld cd] 96)) (.inl rfl) ((((hd.out.bound).ext (((Ext.refl w).drew).trans hx4)).mono (fun b hb => .inr hb)).alloc (.cells #[.int .i64 (s.last + 1), .slice Ad ld cd] 96)) HI.out
    clear hrd hrdb
    refine wpF_step (i := 13) (by kernel_rfl) rfl (fun K hK => ?_)
    refine step_append_Rs kPar 60 rfl rfl (.tmp 52) (.tmp 59) 60 96 rfl tPars _ _ _ _ _ _ _ rfl rfl how hrd2 (fun y cs hy => kPar.mono hdb hy) (fun b hb => .inl (by have h1 := hx4.le; have h2 : w.drew.heap.size = w.heap.size := rfl; simp at hb; omega)) HPL.out (by have h1 := hx4.le; have h2 : w.drew.heap.size = w.heap.size := rfl; simp; omega) ?_
    intro v6 w6 ho6 hg6 _
    have hb6 := Lib.hid (show w6.heap[g]? = some (.cells #[.slice A s.ids.length c, .int .i64 (s.last + 1), .bool true] 62 (0, 0)) from (hg6.block g (blk_lt hb5.out) (fun e => by have h1 := hfr4 _ e.symm; have h2 := HGL.out; have h3 : w.drew.heap.size = w.heap.size := rfl; omega)).trans hb5.out)
    have hu6 := Lib.hid (show Upd (fun b => b = g) w w6 from (((((Ext.refl w).drew).trans hx4).alloc (.cells #[.int .i64 (s.last + 1), .slice Ad ld cd] 96)).grown hg6 (fun k hk => by have h1 := hfr4 _ hk; have h3 : w.drew.heap.size = w.heap.size := rfl; omega)).upd _)
    obtain ⟨A6, x6, m6, e6⟩ : ∃ A x m, v6 = .slice A x m := by obtain ⟨A, c, e, _⟩ := id ho6.rs; exact ⟨_, _, _, e⟩
    subst e6
    have HN6 := Lib.hid (HFIN.out w6 _ hb6.out ho6.rs)
    refine hK.out _ _ (HS0.out _ hb6.out) (gone (by kernel_rfl)) ?_
    clear hK K
    (try simp only [Act.put, List.setIfInBounds_toArray, List.set_cons_zero, List.set_cons_succ])
    refine wpF_take0 (i := 14) (v := ?v12) rfl (by kernel_rfl) (by kernel_rfl) (by kernel_rfl) (fun _ _ _ h => h) (by kernel_rfl) (Or.inl ⟨by rfl, ?hy12⟩) (HS0.out _ hb6.out) (gone (by kernel_rfl)) ?rest12
    case hy12 => (intro W hSW; (try dsimp only at hSW); go_simp; (try with_reducible rfl))
    (try simp only [Act.put, List.setIfInBounds_toArray, List.set_cons_zero, List.set_cons_succ])
    refine wpF_take0 (i := 15) (v := ?v13) rfl (by kernel_rfl) (by kernel_rfl) (by kernel_rfl) (fun _ _ _ h => h) (by kernel_rfl) (Or.inl ⟨by rfl, ?hy13⟩) (HS0.out _ hb6.out) (gone (by kernel_rfl)) ?rest13
    case hy13 => (intro W hSW; (try dsimp only at hSW); go_simp; (try with_reducible rfl))
    (try simp only [Act.put, List.setIfInBounds_toArray, List.set_cons_zero, List.set_cons_succ])
    have hc10 := HS1.out _ hb6.out
    have hf10 := (HS0.out _ hb6.out).2
    have hb7 : (w6.setCell ⟨g, 0, none⟩ (.slice A6 x6 m6)).cell? ⟨g, 1, none⟩ = some (.int .i64 (s.last + 1)) ∧ (w6.setCell ⟨g, 0, none⟩ (.slice A6 x6 m6)).frozen? ⟨g, 0, none⟩ = false := by
      have h := heap_setCell_same w6 g 0 _ _ (.slice A6 x6 m6) hb6.out
      exact ⟨cell_blk h 1, frozen_blk h 0⟩
    refine wpF_step (i := 16) (by kernel_rfl) rfl (fun K hK => ?_)
    go_simp
    refine hK.out _ _ hb7 (gone (by kernel_rfl)) ?_
    clear hK K
    (try simp only [Act.put, List.setIfInBounds_toArray, List.set_cons_zero, List.set_cons_succ])
    refine wpF_done (by kernel_rfl) ?_ _
    refine NoPanic.normal ?_
    exact hK2.out _ _ _ _ _ _ _ _ _ _ _ _ _ _ _ _ _  (Lib.hid ⟨HN6.out, hu6.out.set (.inl rfl) _⟩)
  · have hb4 := Lib.hid (blk_ext hb0.out ((Ext.refl w.drew).alloc (.cells #[.int .i64 (s.last + 1), .slice Ad ld cd] 96)))
    go_simp
    refine hK.out _ _ (HS0.out _ hb4.out) (fun _ => HS1.out _ hb4.out) ?_
    clear hK K
    (try simp only [Act.put, List.setIfInBounds_toArray, List.set_cons_zero, List.set_cons_succ])
    refine wpF_step (i := 5) (by kernel_rfl) rfl (fun K hK => ?_)
    go_simp
    refine (ClonePar_calls _ B _ _ (hr.out.ext (((Ext.refl w).drew).alloc (.cells #[.int .i64 (s.last + 1), .slice Ad ld cd] 96))) HSZ.out).mono ?_
    rintro e w5 ⟨u5, rfl, ho5, hx5⟩
    (try go_wp2_with fail)
    have hb5 := Lib.hid (blk_ext hb4.out hx5)
    refine hK.out _ _ (HS0.out _ hb5.out) (gone (by kernel_rfl)) ?_
    clear hK K
    (try simp only [Act.put, List.setIfInBounds_toArray, List.set_cons_zero, List.set_cons_succ])
    have hlt5 := ho5.lt
    have hfr5 := ho5.from_
    have hsz5 : (w.drew.alloc (.cells #[.int .i64 (s.last + 1), .slice Ad ld cd] 96)).heap.size = w.heap.size + 1 := by simp
    rw [hsz5] at hfr5
    have hle5 := hx5.le
    rw [hsz5] at hle5
    have how := ho5.mono (S' := fun b => w.heap.size ≤ b ∨ B b ∨ D b) (fun b hb => hb.elim (fun h => .inl (by have h2 : (w.drew.alloc (.cells #[.int .i64 (s.last + 1), .slice Ad ld cd] 96)).heap.size ≤ b := h; rw [hsz5] at h2; omega)) fun h => .inr (.inl h))
    have hdb : ∀ b, (b = w.heap.size ∨ (D b ∧ b < w.heap.size)) → (w.heap.size ≤ b ∨ B b ∨ D b) ∧ some b ≠ u5.ownBlock := fun b hb => by
      rcases hb with rfl | ⟨hb, hbl⟩
      · exact ⟨.inl (Nat.le_refl _), fun e => by have := hfr5 _ e.symm; omega⟩
      · exact ⟨.inr (.inr hb), fun e => by have := hfr5 _ e.symm; omega⟩
    have hrd2 := Rs.one_par (T := fun b => b = w.heap.size ∨ (D b ∧ b < w.heap.size)) (blk_ext (heap_new w.drew _ rfl (.cells #[.int .i64 (s.last + 1), .slice Ad ld cd] 96)) hx5) (.inl rfl) ((((hd.out.bound).ext ((Ext.refl w).drew)).mono (fun b hb => .inr hb)).ext (((Ext.refl w.drew).alloc (.cells #[.int .i64 (s.last + 1), .slice Ad ld cd] 96)).trans hx5)) HI.out
    refine wpF_step (i := 13) (by kernel_rfl) rfl (fun K hK => ?_)
    refine step_append_Rs kPar 60 rfl rfl (.tmp 52) (.tmp 59) 60 96 rfl tPars _ _ _ _ _ _ _ rfl rfl how hrd2 (fun y cs hy => kPar.mono hdb hy) (fun b hb => .inl (by omega)) HPL.out (by rw [hsz5]; exact hle5) ?_
    intro v6 w6 ho6 hg6 _
    have hb6 := Lib.hid (show w6.heap[g]? = some (.cells #[.slice A s.ids.length c, .int .i64 (s.last + 1), .bool true] 62 (0, 0)) from (hg6.block g (blk_lt hb5.out) (fun e => by have h1 := hfr5 _ e.symm; have h2 := HGL.out; omega)).trans hb5.out)
    have hu6 := Lib.hid (show Upd (fun b => b = g) w w6 from (((((Ext.refl w).drew).alloc (.cells #[.int .i64 (s.last + 1), .slice Ad ld cd] 96)).trans hx5).grown hg6 (fun k hk => by have h1 := hfr5 _ hk; omega)).upd _)
    obtain ⟨A6, x6, m6, e6⟩ : ∃ A x m, v6 = .slice A x m := by obtain ⟨A, c, e, _⟩ := id ho6.rs; exact ⟨_, _, _, e⟩
    subst e6
    have HN6 := Lib.hid (HFIN.out w6 _ hb6.out ho6.rs)
    refine hK.out _ _ (HS0.out _ hb6.out) (gone (by kernel_rfl)) ?_
    clear hK K
    (try simp only [Act.put, List.setIfInBounds_toArray, List.set_cons_zero, List.set_cons_succ])
    refine wpF_take0 (i := 14) (v := ?v14) rfl (by kernel_rfl) (by kernel_rfl) (by kernel_rfl) (fun _ _ _ h => h) (by kernel_rfl) (Or.inl ⟨by rfl, ?hy14⟩) (HS0.out _ hb6.out) (gone (by kernel_rfl)) ?rest14
    case hy14 => (intro W hSW; (try dsimp only at hSW); go_simp; (try with_reducible rfl))
    (try simp only [Act.put, List.setIfInBounds_toArray, List.set_cons_zero, List.set_cons_succ])
    refine wpF_take0 (i := 15) (v := ?v15) rfl (by kernel_rfl) (by kernel_rfl) (by kernel_rfl) (fun _ _ _ h => h) (by kernel_rfl) (Or.inl ⟨by rfl, ?hy15⟩) (HS0.out _ hb6.out) (gone (by kernel_rfl)) ?rest15
    case hy15 => (intro W hSW; (try dsimp only at hSW); go_simp; (try with_reducible rfl))
    (try simp only [Act.put, List.setIfInBounds_toArray, List.set_cons_zero, List.set_cons_succ])
    have hc10 := HS1.out _ hb6.out
    have hf10 := (HS0.out _ hb6.out).2
    have hb7 : (w6.setCell ⟨g, 0, none⟩ (.slice A6 x6 m6)).cell? ⟨g, 1, none⟩ = some (.int .i64 (s.last + 1)) ∧ (w6.setCell ⟨g, 0, none⟩ (.slice A6 x6 m6)).frozen? ⟨g, 0, none⟩ = false := by
      have h := heap_setCell_same w6 g 0 _ _ (.slice A6 x6 m6) hb6.out
      exact ⟨cell_blk h 1, frozen_blk h 0⟩
    refine wpF_step (i := 16) (by kernel_rfl) rfl (fun K hK => ?_)
    go_simp
    refine hK.out _ _ hb7 (gone (by kernel_rfl)) ?_
    clear hK K
    (try simp only [Act.put, List.setIfInBounds_toArray, List.set_cons_zero, List.set_cons_succ])
    refine wpF_done (by kernel_rfl) ?_ _
    refine NoPanic.normal ?_
    exact hK2.out _ _ _ _ _ _ _ _ _ _ _ _ _ _ _ _ _  (Lib.hid ⟨HN6.out, hu6.out.set (.inl rfl) _⟩)
end Go.Proofs.Ytfflcnlgkbgbhaa
set_option linter.unusedVariables false
set_option linter.unusedSimpArgs false
namespace Go.Proofs.Ytfflcnlgkbgbhaa
open Go.RowKit

set_option maxHeartbeats 400000 in
theorem NetNew_calls (w : World) : Calls Try.prog 21 #[] w fun e w' => e = .returned (.pointer (some ⟨w.heap.size, 0, none⟩)) ∧ NetR w' w.heap.size (fun _ => False) bag0 ∧ Ext w w' := by
  go_enter Try.func21, Try.ntmps21
  go_wp2
  go_ret
  refine ⟨rfl, ⟨none, 0, heap_new w _ rfl _, Rs.nil _ _ _, bag0_ok, by decide, fun h => h⟩, (Ext.refl w).alloc _⟩

theorem zip_eraseIdx {α β : Type} : ∀ (l : List α) (r : List β) (i : Nat), (l.zip r).eraseIdx i = (l.eraseIdx i).zip (r.eraseIdx i)
  | [], r, i => by simp
  | a :: l, [], i => by simp
  | a :: l, b :: r, 0 => rfl
  | a :: l, b :: r, i + 1 => by simp [zip_eraseIdx l r i]
theorem map_eraseIdx' {α β : Type} (f : α → β) : ∀ (l : List α) (i : Nat), (l.map f).eraseIdx i = (l.eraseIdx i).map f
  | [], i => by simp
  | a :: l, 0 => rfl
  | a :: l, i + 1 => by simp [map_eraseIdx' f l i]
theorem parcels_lose (s : BagS) (i : Nat) : parcels ⟨s.ms.eraseIdx i, s.ids.eraseIdx i, s.last⟩ = (parcels s).eraseIdx i := by
  unfold parcels
  rw [zip_eraseIdx, map_eraseIdx']

set_option maxRecDepth 100000 in
set_option maxHeartbeats 1000000 in
theorem NetLose_calls (w : World) (g : Nat) (B : Nat → Prop) (s : BagS) (n : Int) (hid : I64 n) (h : NetR w g B s) :
    Calls Try.prog 26 #[.pointer (some ⟨g, 0, none⟩), .int .i64 n] w fun e w' => e = .returned (.int .i64 ((s.lose n).2 : Int)) ∧ NetR w' g (fun b => w.heap.size ≤ b ∨ B b) (s.lose n).1 ∧ Upd (fun b => b = g) w w' := by
  have HI := Lib.hid hid
  have HN := Lib.hid h
  have hok := h.ok
  have HLT := Lib.hid h.lt
  have HBG := Lib.hid (show ¬ B g by obtain ⟨_, _, _, _, _, _, h⟩ := h; exact h)
  rcases at_lt n hok with h0 | ⟨i, h0, hi1, hi2⟩
  · have HL := Lib.hid (show s.lose n = (s, 130) by unfold BagS.lose; rw [if_pos (by omega)])
    have HF := Lib.hid (show findI s n = 0 ∧ findE s n = 130 by unfold findI findE; rw [h0]; exact ⟨rfl, rfl⟩)
    clear h0 hok h hid
    go_enter Try.func26, Try.ntmps26
    go_wp2_with fail
    refine (find_calls w g B s n HI.out HN.out).mono ?_
    rw [HF.out.1, HF.out.2]
    rintro e w' ⟨rfl, hx⟩
    have HX := Lib.hid hx
    clear hx
    go_wp2_with fail
    go_ret
    rw [HL.out]
    exact ⟨rfl, (HN.out.ext HX.out).mono (fun b hb => .inr hb) (by have := HLT.out; have := HBG.out; rintro (h | h); omega; contradiction), HX.out.upd _⟩
  · have HL := Lib.hid (show s.lose n = (⟨s.ms.eraseIdx i, s.ids.eraseIdx i, s.last⟩, 0) by unfold BagS.lose; rw [if_neg (by omega), h0]; rfl)
    have HF := Lib.hid (show findI s n = (i : Int) ∧ findE s n = 0 by unfold findI findE; rw [h0]; exact ⟨if_neg (by omega), if_neg (by omega)⟩)
    have HOK := Lib.hid (show BagOk ⟨s.ms.eraseIdx i, s.ids.eraseIdx i, s.last⟩ by have h := lose_ok hok n; rw [HL.out] at h; exact h)
    have hi256 : i < 256 := by have := hok.le; omega
    have HPL := Lib.hid (show (parcels s).length * 32 ≤ 140737488355328 by have := hok.le; rw [parcels_len hok, hok.len]; omega)
    have HIL := Lib.hid (show i < (parcels s).length by rw [parcels_len hok]; exact hi1)
    clear h0 hi1 hi2 hok h hid
    go_enter Try.func26, Try.ntmps26
    go_wp2_with fail
    refine (find_calls w g B s n HI.out HN.out).mono ?_
    rw [HF.out.1, HF.out.2]
    rintro e w2 ⟨rfl, hx⟩
    obtain ⟨A, c, hb, hr, _, hl62, hBg⟩ := HN.out.ext hx
    have hc0 : w2.cell? ⟨g, 0, none⟩ = some (.slice A s.ids.length c) := cell_blk hb 0
    have HB := Lib.hid hb
    have HR := Lib.hid hr
    have HX := Lib.hid hx
    have HL62 := Lib.hid hl62
    clear hb hr hx hl62 hBg
    go_wp2_with fail
    refine (ClonePar_calls _ B _ _ HR.out HPL.out).mono ?_
    rintro e w3 ⟨u, rfl, ho, hx⟩
    have HO := Lib.hid ho
    have HX3 := Lib.hid hx
    clear ho hx hc0
    go_wp2_with fail
    refine (DelPar_calls _ _ _ _ _ i HIL.out HO.out).mono ?_
    rintro e w4 ⟨u4, rfl, ho, hob, hu⟩
    have hfr := HO.out.from_
    have hng : ¬ (u.ownBlock = some g) := fun e => by have h1 := hfr g e; have h2 := HLT.out; have h3 := HX.out.le; omega
    have hb4 := blk_upd (blk_ext HB.out HX3.out) hu hng
    have hc4 := cell_blk hb4 0
    have hf4 := frozen_blk hb4 0
    simp only [List.getElem?_toArray, List.getElem?_cons_zero] at hc4
    obtain ⟨A4, c4, e4, _⟩ := id ho.rs
    have hlen : ((parcels s).eraseIdx i).length = (s.ids.eraseIdx i).length := by rw [← parcels_lose, parcels_len HOK.out]
    rw [hlen] at e4
    subst e4
    have HR4 := Lib.hid (show NetR (w4.setCell ⟨g, 0, none⟩ (.slice A4 (s.ids.eraseIdx i).length c4)) g (fun b => w.heap.size ≤ b ∨ B b) ⟨s.ms.eraseIdx i, s.ids.eraseIdx i, s.last⟩ by
      have hnS : ¬ (w.heap.size ≤ g ∨ B g) := by have := HLT.out; have := HBG.out; rintro (h | h); omega; contradiction
      refine ⟨A4, c4, heap_setCell_same w4 g 0 _ _ _ hb4, ?_, HOK.out, HL62.out, hnS⟩
      rw [parcels_lose]
      exact (ho.rs.mono (fun b hb => hb.elim (fun h => .inl (Nat.le_trans HX.out.le h)) .inr)).seti (g := g) (i := 0) hnS _)
    have HU4 := Lib.hid (show Upd (fun b => b = g) w (w4.setCell ⟨g, 0, none⟩ (.slice A4 (s.ids.eraseIdx i).length c4)) from
      upd_at ((hu.ext (HX.out.trans HX3.out) (fun k hk => by have h1 := hfr k hk; have h3 := HX.out.le; omega)).upd (fun b => b = g)) 0 _)
    clear hb4 hu ho hob hfr hng hlen
    go_wp2_with fail
    go_ret
    rw [HL.out]
    exact ⟨rfl, HR4.out, HU4.out⟩
/-- A message of a row, cell by cell. -/
theorem Row.msg {w : World} {S : Nat → Prop} {A : Option Addr} {ms : List MsgS} (h : Row kMsg w S A ms) {j : Nat} (hj : j < ms.length) : ∃ ad Ae ce Av cv Ad cd, A = some ad ∧ w.cell? (ad.add (j * 13)) = some (.int .i64 ms[j].kind) ∧ w.cell? ⟨(ad.add (j * 13)).block, (ad.add (j * 13)).off + 1, none⟩ = some (.int .i64 ms[j].from_) ∧ w.cell? ⟨(ad.add (j * 13)).block, (ad.add (j * 13)).off + 2, none⟩ = some (.int .i64 ms[j].to_) ∧ w.cell? ⟨(ad.add (j * 13)).block, (ad.add (j * 13)).off + 3, none⟩ = some (.int .i64 ms[j].term) ∧ w.cell? ⟨(ad.add (j * 13)).block, (ad.add (j * 13)).off + 4, none⟩ = some (.int .i64 ms[j].index) ∧ w.cell? ⟨(ad.add (j * 13)).block, (ad.add (j * 13)).off + 5, none⟩ = some (.int .i64 ms[j].logTerm) ∧ w.cell? ⟨(ad.add (j * 13)).block, (ad.add (j * 13)).off + 6, none⟩ = some (.int .i64 ms[j].commit) ∧ w.cell? ⟨(ad.add (j * 13)).block, (ad.add (j * 13)).off + 7, none⟩ = some (.int .i64 ms[j].round) ∧ w.cell? ⟨(ad.add (j * 13)).block, (ad.add (j * 13)).off + 8, none⟩ = some (.bool ms[j].yes) ∧ w.cell? ⟨(ad.add (j * 13)).block, (ad.add (j * 13)).off + 9, none⟩ = some (.bool ms[j].done) ∧ w.cell? ⟨(ad.add (j * 13)).block, (ad.add (j * 13)).off + 10, none⟩ = some (.slice Ae ms[j].entries.length ce) ∧ w.cell? ⟨(ad.add (j * 13)).block, (ad.add (j * 13)).off + 11, none⟩ = some (.slice Av ms[j].voters.length cv) ∧ w.cell? ⟨(ad.add (j * 13)).block, (ad.add (j * 13)).off + 12, none⟩ = some (.slice Ad ms[j].data.length cd) ∧
    MsgV w S (.agg (msgC ms[j] (.slice Ae ms[j].entries.length ce) (.slice Av ms[j].voters.length cv) (.slice Ad ms[j].data.length cd))) ms[j] := by
  obtain ⟨ad, cs, rfl, _, _, hK, hc⟩ := h.get hj
  obtain ⟨ve, vv, vd, rfl, h1, h2, h3, h4⟩ := kMsg_iff.1 hK
  obtain ⟨Ae, ce, e1, _⟩ := id h1
  obtain ⟨Av, cv, e2, _⟩ := id h2
  obtain ⟨Ad, cd, e3, _⟩ := id h3
  subst e1; subst e2; subst e3
  have hg : ∀ i u, (msgC ms[j] (.slice Ae ms[j].entries.length ce) (.slice Av ms[j].voters.length cv) (.slice Ad ms[j].data.length cd)).toList[i]? = some u → 0 < i → w.cell? ⟨(ad.add (j * 13)).block, (ad.add (j * 13)).off + i, none⟩ = some u := fun i u hu hi => by
    have h := hc i u hu
    rw [← add_of_add] at h
    rw [show (ad.add (j * kMsg.sz)).add i = ⟨(ad.add (j * 13)).block, (ad.add (j * 13)).off + i, none⟩ from by
      show (ad.add (j * 13)).add i = _
      unfold Addr.add
      rw [if_neg (show ¬ i = 0 by omega)]] at h
    exact h
  exact ⟨ad, Ae, ce, Av, cv, Ad, cd, rfl, hc 0 _ rfl, hg 1 _ rfl (by decide), hg 2 _ rfl (by decide), hg 3 _ rfl (by decide), hg 4 _ rfl (by decide), hg 5 _ rfl (by decide), hg 6 _ rfl (by decide), hg 7 _ rfl (by decide), hg 8 _ rfl (by decide), hg 9 _ rfl (by decide), hg 10 _ rfl (by decide), hg 11 _ rfl (by decide), hg 12 _ rfl (by decide), _, _, _, rfl, h1, h2, h3, h4⟩

set_option maxRecDepth 1000000 in
set_option maxHeartbeats 4000000 in
theorem NetPeek_calls (w : World) (g : Nat) (B : Nat → Prop) (s : BagS) (n : Int) (hid : I64 n) (h : NetR w g B s) :
    Calls Try.prog 22 #[.pointer (some ⟨g, 0, none⟩), .int .i64 n] w fun e w' => ∃ mv, e = .returned (.tuple #[mv, .int .i64 ((s.peek n).2 : Int)]) ∧ MsgV w' (w.heap.size ≤ ·) mv (s.peek n).1 ∧ Ext w w' := by
  have HI := Lib.hid hid
  have HN := Lib.hid h
  have HCS := Lib.hid (at_lt n h.ok)
  have HOK := Lib.hid h.ok
  clear h hid
  go_enter Try.func22, Try.ntmps22
  go_wp2_with fail
  obtain ⟨w1, hw1⟩ : ∃ w1, w1 = w.alloc (.cells (msgC zeroM (.slice none 0 0) (.slice none 0 0) (.slice none 0 0)) 26) := ⟨_, rfl⟩
  have HB1 := Lib.hid (show w1.heap[w.heap.size]? = some (.cells (msgC zeroM (.slice none 0 0) (.slice none 0 0) (.slice none 0 0)) 26 (0, 0)) by rw [hw1]; exact heap_new w _ rfl _)
  have HX1 := Lib.hid (show Ext w w1 by rw [hw1]; exact (Ext.refl w).alloc _)
  unfold msgC zeroM at hw1
  rw [← hw1]
  clear hw1
  refine (find_calls w1 g B s n HI.out (HN.out.ext HX1.out)).mono ?_
  rintro e w2 ⟨rfl, hx⟩
  have HB2 := Lib.hid (blk_ext HB1.out hx)
  have HX2 := Lib.hid (HX1.out.trans hx)
  have HN2 := Lib.hid (HN.out.ext HX2.out)
  clear hx HB1 HX1
  obtain ⟨⟨x0, x1, x2, x3, x4, x5, x6, x7, x8, x9, x10, x11, x12⟩, ⟨y0, y1, y2, y3, y4, y5, y6, y7, y8, y9, y10, y11, y12⟩⟩ := msg_cells HB2.out
  simp only [zeroM] at x0 x1 x2 x3 x4 x5 x6 x7 x8 x9
  rcases HCS.out with h0 | ⟨i, h0, hi1, hi2⟩
  · have HP := Lib.hid (show s.peek n = (zeroM, 130) by unfold BagS.peek; rw [if_pos (by omega)])
    have HF := Lib.hid (show findI s n = 0 ∧ findE s n = 130 by unfold findI findE; rw [h0]; exact ⟨rfl, rfl⟩)
    have HSM := Lib.hid (setM_heap w2 w.heap.size zeroM (.slice none 0 0) (.slice none 0 0) (.slice none 0 0) HB2.out)
    have HXM := Lib.hid ((setM_upd w2 w.heap.size zeroM (.slice none 0 0) (.slice none 0 0) (.slice none 0 0)).ext HX2.out (fun k hk => by have : k = w.heap.size := hk; omega))
    rw [HF.out.1, HF.out.2]
    clear h0 HCS
    go_wp2_with fail
    (try simp only [Exit.inBlock, Exit.then])
    refine bodyPost_ret (results_msg rfl _ _ _ _ _ _ _ _ _ rfl HSM.out) rfl ?_
    rw [HP.out]
    exact ⟨_, rfl, zero_V _ _, HXM.out⟩
  · have HP := Lib.hid (show s.peek n = (s.ms[i], 0) by unfold BagS.peek; rw [if_neg (by omega), h0]; simp [List.getD, List.getElem?_eq_getElem hi2])
    have HF := Lib.hid (show findI s n = (i : Int) ∧ findE s n = 0 by unfold findI findE; rw [h0]; exact ⟨if_neg (by omega), if_neg (by omega)⟩)
    obtain ⟨A, c, hb, hr, _, _, hBg⟩ := HN2.out
    have hil : i < (parcels s).length := by rw [parcels_len HOK.out]; exact hi1
    obtain ⟨ad, Ad, cd, rfl, hq0, hc1, hd, hq1⟩ := hr.shape.2.2.2.2.par hil
    have HG := Lib.hid (show getM (parcels s)[i].2 = (s.ms[i], 0) by rw [parcels_snd HOK.out i hil, putM_yes (HOK.out.chk _ (List.getElem_mem hi2))]; exact get_put (HOK.out.chk _ (List.getElem_mem hi2)))
    have hcb : w2.cell? ⟨g, 0, none⟩ = some (.slice (some ad) s.ids.length c) := cell_blk hb 0
    have hc2 : w2.cell? ((ad.add (i * 2)).add 1) = some (.slice Ad (parcels s)[i].2.length cd) := by
      rw [← hc1]; unfold Addr.add; simp
    have hc3 : w2.cell? (ad.add (i * 2 + 1)) = some (.slice Ad (parcels s)[i].2.length cd) := by
      rw [← add_of_add]; exact hc2
    have hi256 : i < 256 := by have := HOK.out.le; omega
    have HD := Lib.hid hd
    rw [HF.out.1, HF.out.2]
    generalize (parcels s)[i].2 = pb at hc1 hc2 hc3 HD HG
    generalize s.ms[i] = m at HP HG
    clear h0 HCS hb hr hBg hq0 hq1 hd HN HN2
    clear hil hi2
    go_wp2_with fail
    refine (Get_calls _ _ _ _ HD.out).mono ?_
    rw [HG.out]
    rintro e w3 ⟨mv, rfl, hm, hx⟩
    have HB3 := Lib.hid (blk_ext HB2.out hx)
    have HX3 := Lib.hid (HX2.out.trans hx)
    have hs1 : w.heap.size + 1 ≤ w2.heap.size := Nat.succ_le_of_lt (blk_lt HB2.out)
    have HM := Lib.hid (hm.mono (S' := (w.heap.size + 1 ≤ ·)) fun k hk => Nat.le_trans hs1 hk)
    obtain ⟨Ae, ce, Av, cv, Ad2, cd2, rfl, -⟩ := hm.form
    clear hm hx HB2 HX2 hs1 hc1 hc2 hc3 hcb x0 x1 x2 x3 x4 x5 x6 x7 x8 x9 x10 x11 x12 y0 y1 y2 y3 y4 y5 y6 y7 y8 y9 y10 y11 y12
    obtain ⟨⟨x0, x1, x2, x3, x4, x5, x6, x7, x8, x9, x10, x11, x12⟩, ⟨y0, y1, y2, y3, y4, y5, y6, y7, y8, y9, y10, y11, y12⟩⟩ := msg_cells HB3.out
    simp only [zeroM] at x0 x1 x2 x3 x4 x5 x6 x7 x8 x9
    have HSM := Lib.hid (setM_heap w3 w.heap.size m (.slice Ae m.entries.length ce) (.slice Av m.voters.length cv) (.slice Ad2 m.data.length cd2) HB3.out)
    have HXM := Lib.hid ((setM_upd w3 w.heap.size m (.slice Ae m.entries.length ce) (.slice Av m.voters.length cv) (.slice Ad2 m.data.length cd2)).ext HX3.out (fun k hk => by have : k = w.heap.size := hk; omega))
    dsimp only [msgC]
    go_wp2_with fail
    (try simp only [Exit.inBlock, Exit.then])
    refine bodyPost_ret (results_msg rfl _ _ _ _ _ _ _ _ _ rfl HSM.out) rfl ?_
    rw [HP.out]
    refine ⟨_, rfl, (HM.out.keep fun k hk hl => ?_).mono fun k hk => Nat.le_of_succ_le hk, HXM.out⟩
    exact (setM_upd w3 w.heap.size m (.slice Ae m.entries.length ce) (.slice Av m.voters.length cv) (.slice Ad2 m.data.length cd2)).block k hl (fun e => by have e' : k = w.heap.size := e; have h' : w.heap.size + 1 ≤ k := hk; omega)
end Go.Proofs.Ytfflcnlgkbgbhaa
set_option linter.unusedVariables false
set_option linter.unusedSimpArgs false
namespace Go.Proofs.Ytfflcnlgkbgbhaa
open Go.RowKit

set_option maxHeartbeats 400000 in
theorem vote_calls (w : World) (n : Int) : Calls Try.prog 40 #[.int .i64 n] w fun e w' => e = .returned (.agg (msgC ⟨1, 6, n, 1, 0, 0, 0, 0, false, false, [], [], []⟩ (.slice none 0 0) (.slice none 0 0) (.slice none 0 0))) ∧ Ext w w' := by
  go_enter Try.func40, Try.ntmps40
  go_wp2_with fail
  refine bodyPost_ret (results_cell_row rfl _ _ _ _ _ _ _ rfl (heap_alloc_new _ _) Try.underlying26 rfl (by kernel_rfl)) rfl ?_
  exact ⟨rfl, (Ext.refl w).alloc _⟩

/-- A message that is light. -/
structure LightM (m : MsgS) : Prop where
  ents : m.entries.length ≤ 65536
  vots : m.voters.length ≤ 65536
  data : m.data.length ≤ 65536
  each : ∀ e ∈ m.entries, e.data.length ≤ 65536
theorem LightM.of_take {m : MsgS} {q : Nat} (h1 : 20 * (q : Int) ≤ 65536) (hv : m.voters.length ≤ 65536) (hd : m.data.length ≤ 65536) (hq : q = m.entries.length) (he : ∀ e ∈ m.entries.take q, e.data.length ≤ 65536) : LightM m :=
  ⟨by omega, hv, hd, fun e h => he e (by rw [hq, List.take_length]; exact h)⟩
theorem min_le (x : Int) (h : 0 ≤ x) (z : Int) (hz : (if (65536 : Int) < x then (65536 : Int) else x) = z) : 0 ≤ z ∧ z ≤ 65536 ∧ (65536 < x → z = 65536) := by
  split at hz <;> omega
theorem mem_take_succ {α : Type} {l : List α} {k : Nat} (hk : k < l.length) {P : α → Prop} (h : ∀ x ∈ l.take k, P x) (hx : P l[k]) : ∀ x ∈ l.take (k + 1), P x := by
  rw [List.take_succ_eq_append_getElem hk]
  intro x hm
  rcases List.mem_append.1 hm with h1 | h1
  · exact h x h1
  · rw [List.mem_singleton.1 h1]; exact hx

set_option maxRecDepth 100000 in
set_option maxHeartbeats 4000000 in
theorem weight_calls (w : World) (S : Nat → Prop) (v : Value) (l : List MsgS) (hr : Rs kMsg w S v l) :
    Calls Try.prog 10 #[v] w fun e w' => (∃ z : Int, e = .returned (.int .i64 z) ∧ 0 ≤ z ∧ z ≤ 200000 ∧ (z ≤ 65536 → (l.length ≤ 65536 ∧ ∀ m ∈ l, LightM m))) ∧ ∃ n, w' = w.drewN n := by
  have HR := Lib.hid hr
  obtain ⟨A, c, rfl, hl, hc, hz, _⟩ := hr
  go_enter Try.func10, Try.ntmps10
  go_wp2_with fail
  go_loopw [3, 4] (fun sv i wr => ∃ (k : Nat) (z : Int), k ≤ l.length ∧ i = .int .i64 k ∧ sv = .int .i64 z ∧ 20 * (k : Int) ≤ z ∧ z ≤ 200000 ∧ Hid (z ≤ 65536 → ∀ m ∈ l.take k, LightM m) ∧ Hid (∃ n, wr = w.drewN n)) (fun _ i _ => l.length - (intOf i).toNat)
  case atStart => exact ⟨0, 0, Nat.zero_le _, rfl, rfl, by omega, by omega, Lib.hid (fun _ m hm => by simp at hm), Lib.hid ⟨0, rfl⟩⟩
  case round =>
    obtain ⟨k, z, hk, rfl, rfl, hz20, hz2, HOKz, HW⟩ := hrel
    obtain ⟨n0, rfl⟩ := HW.out
    by_cases hlt : k < l.length
    · obtain ⟨ad, Ae, ce, Av, cv, Ad, cd, rfl, z0, z1, z2, z3, z4, z5, z6, z7, z8, z9, z10, z11, z12, hm⟩ := HR.out.shape.2.2.2.2.msg hlt
      have HM := Lib.hid hm
      have HTK := Lib.hid (fun h1 h2 => mem_take_succ (P := LightM) hlt h1 h2)
      generalize l[k] = m at z0 z1 z2 z3 z4 z5 z6 z7 z8 z9 z10 z11 z12 HM HTK
      clear z0 z1 z2 z3 z4 z5 z6 z7 z8 z9 hm
      by_cases hz6 : z ≤ 65536
      · go_upto_region 5 with fail
        go_quiet (fail)
        generalize hzv : (if (65536 : Int) < (m.voters.length : Int) then (65536 : Int) else (m.voters.length : Int)) = zv
        generalize hzd : (if (65536 : Int) < (m.data.length : Int) then (65536 : Int) else (m.data.length : Int)) = zd
        obtain ⟨hv0, hv1, hv2⟩ := min_le _ (by omega) _ hzv
        obtain ⟨hd0, hd1, hd2⟩ := min_le _ (by omega) _ hzd
        obtain ⟨z1, hz1⟩ : ∃ z1, z1 = z + (20 + zv + zd) := ⟨_, rfl⟩
        rw [← hz1]
        have HVD := Lib.hid (show z1 ≤ 65536 → m.voters.length ≤ 65536 ∧ m.data.length ≤ 65536 by omega)
        have hz1a : 20 * (k : Int) + 20 ≤ z1 := by omega
        have hz1b : z1 ≤ 200000 := by omega
        have HPRE := Lib.hid (HOKz.out hz6)
        clear hzv hzd hv0 hv1 hv2 hd0 hd1 hd2 hz1
        clear HW hz6 z11 z12 hz20 hz2 HOKz
        go_wp2_with fail
        go_loopw [3, 5] (fun sv j wr => ∃ (q : Nat) (z : Int), q ≤ m.entries.length ∧ j = .int .i64 q ∧ sv = .int .i64 z ∧ 20 * (q : Int) ≤ z ∧ 20 * (k : Int) + 20 ≤ z ∧ z ≤ 200000 ∧ Hid (z ≤ 65536 → (m.voters.length ≤ 65536 ∧ m.data.length ≤ 65536) ∧ ∀ e ∈ m.entries.take q, e.data.length ≤ 65536) ∧ Hid (∃ n, wr = w.drewN n)) (fun _ j _ => m.entries.length - (intOf j).toNat)
        case atStart => exact ⟨0, z1, Nat.zero_le _, rfl, rfl, by omega, by omega, by omega, Lib.hid (fun h => ⟨HVD.out h, fun e he => by simp at he⟩), Lib.hid ⟨_, World.drewN_drewN _ _ _⟩⟩
        case round =>
          clear hz1a hz1b HVD
          obtain ⟨q, z, hq, rfl, rfl, hzq, hzk, hz2, HOKq, HW⟩ := hrel
          obtain ⟨n2, rfl⟩ := HW.out
          by_cases hlq : q < m.entries.length
          · obtain ⟨ve, vv, vd, e, hE, -, -, -⟩ := HM.out
            simp only [msgC, Value.agg.injEq, Array.mk.injEq, List.cons.injEq, and_true, true_and] at e
            obtain ⟨rfl, rfl, rfl⟩ := e
            obtain ⟨ae, Ae2, ce2, hAe, a0, a1, a2, a3, a4, _, _, _⟩ := hE.shape.2.2.2.2.entF hlq
            subst hAe
            have hel : m.entries.length ≤ 140737488355328 := hE.shape.2.2.2.1
            have HTQ := Lib.hid (fun h1 h2 => mem_take_succ (P := fun e : EntS => e.data.length ≤ 65536) hlq h1 h2)
            generalize m.entries[q] = en at a0 a1 a2 a3 a4 HTQ
            clear hE
            by_cases hz6 : z ≤ 65536
            · go_wp2_with fail
              all_goals
                go_roundw
                case rel => exact ⟨q + 1, _, by omega, by go_num, rfl, by omega, by omega, by omega, Lib.hid (fun h => ⟨(HOKq.out hz6).1, HTQ.out (HOKq.out hz6).2 (by omega)⟩), HW⟩
                case measure => simp [intOf]; omega
            · go_wp2_with fail
              go_roundw
              case rel => exact ⟨k + 1, z, by omega, by go_num, rfl, by omega, by omega, Lib.hid (fun h => absurd h (by omega)), HW⟩
              case measure => simp [intOf]; omega
          · obtain rfl : q = m.entries.length := by omega
            have HOK2 := Lib.hid (show z ≤ 65536 → ∀ m ∈ l.take (k + 1), LightM m from fun h => HTK.out HPRE.out (LightM.of_take (by omega) (HOKq.out h).1.1 (HOKq.out h).1.2 rfl (HOKq.out h).2))
            clear hlq HOKq
            go_wp2_with fail
            go_roundw
            case rel => exact ⟨k + 1, z, by omega, by go_num, rfl, by omega, by omega, HOK2, HW⟩
            case measure => simp [intOf]; omega
      · go_wp2_with fail
        go_ret
        exact ⟨⟨_, rfl, by omega, by omega, fun h => absurd h (by omega)⟩, _, rfl⟩
    · obtain rfl : k = l.length := by omega
      have HOK2 := Lib.hid (show z ≤ 65536 → (l.length ≤ 65536 ∧ ∀ m ∈ l, LightM m) from fun h => ⟨by omega, by have h2 := HOKz.out h; rw [List.take_length] at h2; exact h2⟩)
      clear hlt HOKz
      go_wp2_with fail
      go_ret
      exact ⟨⟨_, rfl, by omega, by omega, HOK2.out⟩, _, rfl⟩
end Go.Proofs.Ytfflcnlgkbgbhaa
