/-
  Texts of this claim, put together: DskDoes, DskTwin, ShelfD, DskStr, Ints, DskShort.
-/
import Derived.Test.YtjjhmknlhfijjaaZ6
import Derived.Test.YtjjhmknlhfijjaaZ1
import Derived.Deep.RegionHeld3
import Derived.Shelf.SlIter.Nil
import Derived.Shelf.SortM.Plain
import Derived.Shelf.SortM.SortNone
import Derived.Test.YtjjhmknlhfijjaaProg
import Derived.Deep.QuietTactic
import Derived.BigQuiet
set_option linter.unusedVariables false
set_option linter.unusedSimpArgs false
namespace Go.Proofs.Ytjjhmknlhfijjaa
open Go.RowKit

structure DoS where
  op : Int
  name : Nam
  to : Nam
  at_ : Int
  b : Nam
  n : Int
  keep : Int
  tear : Int
def doC (d : DoS) (vb : Value) : Array Value := #[.int .i64 d.op, .string ⟨d.name.toArray⟩, .string ⟨d.to.toArray⟩, .int .i64 d.at_, vb, .int .i64 d.n, .int .i64 d.keep, .int .i64 d.tear]
structure DoI (d : DoS) : Prop where
  op : I64 d.op
  name : d.name.length ≤ 9223372036854775807
  to : d.to.length ≤ 9223372036854775807
  at_ : I64 d.at_
  n : I64 d.n
  keep : I64 d.keep
  tear : I64 d.tear
def op10 (x : Int) : Int := wrap64 ((IntKind.u64.wrap x).tmod 10)
def doesO (o : Int) (s : DkS) (d : DoS) : Int × DkS :=
  if o = 3 then trimS s d.name d.at_ else if o = 4 then moveS s d.name d.to else if o = 5 then dropS s d.name else if o = 6 then syncS s else if o = 7 then armS s d.n d.keep d.tear else if o = 8 then crashS s d.keep d.tear else if o = 9 then (0, startS s) else writeS s d.name d.at_ d.b
def doesS (s : DkS) (d : DoS) : Int × DkS := doesO (op10 d.op) s d
theorem do_cells {W : World} {g : Nat} {d : DoS} {vb : Value} {t : TypeId} (h : W.heap[g]? = some (.cells (doC d vb) t (0, 0))) :
    W.cell? ⟨g, 0, none⟩ = some (.int .i64 d.op) ∧ W.cell? ⟨g, 1, none⟩ = some (.string ⟨d.name.toArray⟩) ∧ W.cell? ⟨g, 2, none⟩ = some (.string ⟨d.to.toArray⟩) ∧ W.cell? ⟨g, 3, none⟩ = some (.int .i64 d.at_) ∧ W.cell? ⟨g, 4, none⟩ = some vb ∧ W.cell? ⟨g, 5, none⟩ = some (.int .i64 d.n) ∧ W.cell? ⟨g, 6, none⟩ = some (.int .i64 d.keep) ∧ W.cell? ⟨g, 7, none⟩ = some (.int .i64 d.tear) :=
  ⟨cell_blk h 0, cell_blk h 1, cell_blk h 2, cell_blk h 3, cell_blk h 4, cell_blk h 5, cell_blk h 6, cell_blk h 7⟩
set_option maxRecDepth 100000 in
set_option maxHeartbeats 8000000 in
theorem does_calls (w : World) (p : Nat) (M D S : Nat → Prop) (s : DkS) (d : DoS) (vb : Value) (h : DkX w p M D s) (hd : DoI d) (hv : Rs kByte w S vb d.b) (hc : s.acts.length ≤ 1000000) :
    Calls Try.prog 28 #[ptr p, .agg (doC d vb)] w fun e w' => e = .returned (.int .i64 (doesS s d).1) ∧ DkP w p M D w' (doesS s d).2 := by
  have HH := Lib.hid h
  have HD := Lib.hid hd
  have HV := Lib.hid hv
  have HC := Lib.hid hc
  obtain ⟨Ab, cb, rfl, -, -, -, -⟩ := hv
  clear h hd hc
  unfold ptr doesS
  unfold doC
  obtain ⟨w1, hw1⟩ : ∃ w1, w1 = w.alloc (.cells (doC d (.slice Ab d.b.length cb)) 43) := ⟨_, rfl⟩
  obtain ⟨g, hg⟩ : ∃ g, g = w.heap.size := ⟨_, rfl⟩
  have HX1 := Lib.hid (show Ext w w1 by rw [hw1]; exact (Ext.refl w).alloc _)
  have HB1 := Lib.hid (show w1.heap[g]? = some (.cells (doC d (.slice Ab d.b.length cb)) 43 (0, 0)) by rw [hw1]; exact heap_new w g hg.symm _)
  have HV1 := Lib.hid (HV.out.ext HX1.out)
  unfold doC at hw1
  go_enter Try.func28, Try.ntmps28
  go_upto_region 1 with fail
  rw [← hw1, ← hg]
  obtain ⟨x0, x1, x2, x3, x4, x5, x6, x7⟩ := do_cells HB1.out
  have hgl := blk_lt HB1.out
  have ho : wrap64 ((IntKind.u64.wrap d.op).tmod 10) = op10 d.op := rfl
  clear hw1 hg
  go_upto_region 3 with fail
  rw [ho]
  clear ho
  have HY1 := Lib.hid (HH.out.ext HX1.out)
  obtain ⟨o, hoo⟩ : ∃ o, o = op10 d.op := ⟨_, rfl⟩
  rw [← hoo]
  have HOO := Lib.hid hoo
  clear hoo x0
  by_cases h3 : o = 3
  · subst h3
    have HE := Lib.hid (show doesO (op10 d.op) s d = trimS s d.name d.at_ from by rw [← HOO.out]; unfold doesO; simp)
    go_wp2_with fail
    refine (Trim_calls _ p M D s d.name d.at_ HY1.out HD.out.name HD.out.at_ HC.out).mono ?_
    rintro e w2 ⟨rfl, hp⟩
    have HP := Lib.hid (DkP.trans (HX1.out.dkT M D) hp)
    clear hp
    go_wp2_with fail
    go_ret
    rw [HE.out]
    exact ⟨rfl, HP.out⟩
  by_cases h4 : o = 4
  · subst h4
    have HE := Lib.hid (show doesO (op10 d.op) s d = moveS s d.name d.to from by rw [← HOO.out]; unfold doesO; simp)
    go_wp2_with fail
    refine (Move_calls _ p M D s d.name d.to HY1.out HD.out.name HD.out.to HC.out).mono ?_
    rintro e w2 ⟨rfl, hp⟩
    have HP := Lib.hid (DkP.trans (HX1.out.dkT M D) hp)
    clear hp
    go_wp2_with fail
    go_ret
    rw [HE.out]
    exact ⟨rfl, HP.out⟩
  by_cases h5 : o = 5
  · subst h5
    have HE := Lib.hid (show doesO (op10 d.op) s d = dropS s d.name from by rw [← HOO.out]; unfold doesO; simp)
    go_wp2_with fail
    refine (Drop_calls _ p M D s d.name HY1.out HD.out.name HC.out).mono ?_
    rintro e w2 ⟨rfl, hp⟩
    have HP := Lib.hid (DkP.trans (HX1.out.dkT M D) hp)
    clear hp
    go_wp2_with fail
    go_ret
    rw [HE.out]
    exact ⟨rfl, HP.out⟩
  by_cases h6 : o = 6
  · subst h6
    have HE := Lib.hid (show doesO (op10 d.op) s d = syncS s from by rw [← HOO.out]; unfold doesO; simp)
    go_wp2_with fail
    refine (Sync_calls _ p M D s HY1.out).mono ?_
    rintro e w2 ⟨rfl, hp⟩
    have HP := Lib.hid (DkP.trans (HX1.out.dkT M D) hp)
    clear hp
    go_wp2_with fail
    go_ret
    rw [HE.out]
    exact ⟨rfl, HP.out⟩
  by_cases h7 : o = 7
  · subst h7
    have HE := Lib.hid (show doesO (op10 d.op) s d = armS s d.n d.keep d.tear from by rw [← HOO.out]; unfold doesO; simp)
    go_wp2_with fail
    refine (Arm_calls _ p M D s d.n d.keep d.tear HY1.out HD.out.n HD.out.keep HD.out.tear).mono ?_
    rintro e w2 ⟨rfl, hp⟩
    have HP := Lib.hid (DkP.trans (HX1.out.dkT M D) hp)
    clear hp
    go_wp2_with fail
    go_ret
    rw [HE.out]
    exact ⟨rfl, HP.out⟩
  by_cases h8 : o = 8
  · subst h8
    have HE := Lib.hid (show doesO (op10 d.op) s d = crashS s d.keep d.tear from by rw [← HOO.out]; unfold doesO; simp)
    go_wp2_with fail
    refine (Crash_calls _ p M D s d.keep d.tear HY1.out HD.out.keep HD.out.tear).mono ?_
    rintro e w2 ⟨rfl, hp⟩
    have HP := Lib.hid (DkP.trans (HX1.out.dkT M D) hp)
    clear hp
    go_wp2_with fail
    go_ret
    rw [HE.out]
    exact ⟨rfl, HP.out⟩
  by_cases h9 : o = 9
  · subst h9
    have HE := Lib.hid (show doesO (op10 d.op) s d = (0, startS s) from by rw [← HOO.out]; unfold doesO; simp)
    go_wp2_with fail
    refine (Start_calls _ p M D s HY1.out).mono ?_
    rintro e w2 ⟨rfl, hp⟩
    have HP := Lib.hid (DkP.trans (HX1.out.dkT M D) hp)
    clear hp
    go_wp2_with fail
    go_ret
    rw [HE.out]
    exact ⟨rfl, HP.out⟩
  have q3 : (o == 3) = false := beq_eq_false_iff_ne.2 h3
  have q4 : (o == 4) = false := beq_eq_false_iff_ne.2 h4
  have q5 : (o == 5) = false := beq_eq_false_iff_ne.2 h5
  have q6 : (o == 6) = false := beq_eq_false_iff_ne.2 h6
  have q7 : (o == 7) = false := beq_eq_false_iff_ne.2 h7
  have q8 : (o == 8) = false := beq_eq_false_iff_ne.2 h8
  have q9 : (o == 9) = false := beq_eq_false_iff_ne.2 h9
  have HE := Lib.hid (show doesO (op10 d.op) s d = writeS s d.name d.at_ d.b from by rw [← HOO.out]; unfold doesO; rw [if_neg h3, if_neg h4, if_neg h5, if_neg h6, if_neg h7, if_neg h8, if_neg h9])
  clear h3 h4 h5 h6 h7 h8 h9
  go_wp2_with fail
  refine (Write_calls _ p M D s d.name d.at_ S _ d.b HY1.out HD.out.name HD.out.at_ HV1.out HC.out).mono ?_
  rintro e w2 ⟨rfl, hp⟩
  have HP := Lib.hid (DkP.trans (HX1.out.dkT M D) hp)
  clear hp
  go_wp2_with fail
  go_ret
  rw [HE.out]
  exact ⟨rfl, HP.out⟩
set_option maxRecDepth 100000 in
set_option maxHeartbeats 8000000 in
theorem does_no (w : World) (v : Value) (S : Nat → Prop) (d : DoS) (vb : Value) (h : NoV w v) (hd : DoI d) (hv : Rs kByte w S vb d.b) :
    Calls Try.prog 28 #[v, .agg (doC d vb)] w (Ret6 w) := by
  have HH := Lib.hid h
  have HD := Lib.hid hd
  have HV := Lib.hid hv
  obtain ⟨Ab, cb, rfl, -, -, -, -⟩ := hv
  clear h hd
  unfold doC
  obtain ⟨w1, hw1⟩ : ∃ w1, w1 = w.alloc (.cells (doC d (.slice Ab d.b.length cb)) 43) := ⟨_, rfl⟩
  obtain ⟨g, hg⟩ : ∃ g, g = w.heap.size := ⟨_, rfl⟩
  have HX1 := Lib.hid (show Ext w w1 by rw [hw1]; exact (Ext.refl w).alloc _)
  have HB1 := Lib.hid (show w1.heap[g]? = some (.cells (doC d (.slice Ab d.b.length cb)) 43 (0, 0)) by rw [hw1]; exact heap_new w g hg.symm _)
  have HV1 := Lib.hid (HV.out.ext HX1.out)
  unfold doC at hw1
  go_enter Try.func28, Try.ntmps28
  go_upto_region 1 with fail
  rw [← hw1, ← hg]
  obtain ⟨x0, x1, x2, x3, x4, x5, x6, x7⟩ := do_cells HB1.out
  have hgl := blk_lt HB1.out
  have ho : wrap64 ((IntKind.u64.wrap d.op).tmod 10) = op10 d.op := rfl
  clear hw1 hg
  go_upto_region 3 with fail
  rw [ho]
  clear ho
  have HY1 := Lib.hid (HH.out.ext HX1.out)
  obtain ⟨o, hoo⟩ : ∃ o, o = op10 d.op := ⟨_, rfl⟩
  rw [← hoo]
  have HOO := Lib.hid hoo
  clear hoo x0
  by_cases h3 : o = 3
  · subst h3
    go_wp2_with fail
    refine (Trim_no _ v d.name d.at_ HY1.out).mono ?_
    rintro e w2 ⟨rfl, hx⟩
    have HX := Lib.hid (HX1.out.trans hx)
    clear hx
    go_wp2_with fail
    go_ret
    exact ⟨rfl, HX.out⟩
  by_cases h4 : o = 4
  · subst h4
    go_wp2_with fail
    refine (Move_no _ v d.name d.to HY1.out).mono ?_
    rintro e w2 ⟨rfl, hx⟩
    have HX := Lib.hid (HX1.out.trans hx)
    clear hx
    go_wp2_with fail
    go_ret
    exact ⟨rfl, HX.out⟩
  by_cases h5 : o = 5
  · subst h5
    go_wp2_with fail
    refine (Drop_no _ v d.name HY1.out).mono ?_
    rintro e w2 ⟨rfl, hx⟩
    have HX := Lib.hid (HX1.out.trans hx)
    clear hx
    go_wp2_with fail
    go_ret
    exact ⟨rfl, HX.out⟩
  by_cases h6 : o = 6
  · subst h6
    go_wp2_with fail
    refine (Sync_no _ v HY1.out).mono ?_
    rintro e w2 ⟨rfl, hx⟩
    have HX := Lib.hid (HX1.out.trans hx)
    clear hx
    go_wp2_with fail
    go_ret
    exact ⟨rfl, HX.out⟩
  by_cases h7 : o = 7
  · subst h7
    go_wp2_with fail
    refine (Arm_no _ v _ _ _ HY1.out).mono ?_
    rintro e w2 ⟨rfl, hx⟩
    have HX := Lib.hid (HX1.out.trans hx)
    clear hx
    go_wp2_with fail
    go_ret
    exact ⟨rfl, HX.out⟩
  by_cases h8 : o = 8
  · subst h8
    go_wp2_with fail
    refine (Crash_no _ v _ _ HY1.out).mono ?_
    rintro e w2 ⟨rfl, hx⟩
    have HX := Lib.hid (HX1.out.trans hx)
    clear hx
    go_wp2_with fail
    go_ret
    exact ⟨rfl, HX.out⟩
  by_cases h9 : o = 9
  · subst h9
    go_wp2_with fail
    refine (Start_no _ v HY1.out).mono ?_
    rintro e w2 ⟨rfl, hx⟩
    have HX := Lib.hid (HX1.out.trans hx)
    clear hx
    go_wp2_with fail
    go_ret
    exact ⟨rfl, HX.out⟩
  have q3 : (o == 3) = false := beq_eq_false_iff_ne.2 h3
  have q4 : (o == 4) = false := beq_eq_false_iff_ne.2 h4
  have q5 : (o == 5) = false := beq_eq_false_iff_ne.2 h5
  have q6 : (o == 6) = false := beq_eq_false_iff_ne.2 h6
  have q7 : (o == 7) = false := beq_eq_false_iff_ne.2 h7
  have q8 : (o == 8) = false := beq_eq_false_iff_ne.2 h8
  have q9 : (o == 9) = false := beq_eq_false_iff_ne.2 h9
  clear h3 h4 h5 h6 h7 h8 h9
  go_wp2_with fail
  refine (Write_no _ v d.name d.at_ _ HY1.out).mono ?_
  rintro e w2 ⟨rfl, hx⟩
  have HX := Lib.hid (HX1.out.trans hx)
  clear hx
  go_wp2_with fail
  go_ret
  exact ⟨rfl, HX.out⟩
end Go.Proofs.Ytjjhmknlhfijjaa
set_option linter.unusedVariables false
set_option linter.unusedSimpArgs false
namespace Go.Proofs.Ytjjhmknlhfijjaa
open Go.RowKit

/-- A clone: a disk of its own; its bytes may be the elder one's. -/
def TwinP (w : World) (D : Nat → Prop) (s : DkS) (e : Ending) (w' : World) : Prop :=
  ∃ q M2 D2, e = .returned (ptr q) ∧ DkX w' q M2 D2 s ∧ Ext w w' ∧ (∀ k, M2 k → w.heap.size ≤ k) ∧ ∀ k, D2 k → D k ∨ w.heap.size ≤ k
theorem twin_end {w w1 w2 w3 : World} {p b1 b2 o1 o2 q : Nat} {M D S : Nat → Prop} {s : DkS} {av u : Value} (h : DkY w p M D s b1 b2 av) (ho1 : o1 = w.heap.size) (t1 : TabF w1 o1 (Fresh o1 o1) s.seen) (hx1 : Ext w w1) (ho2 : o2 = w1.heap.size) (t2 : TabF w2 o2 (Fresh o2 o2) s.last) (hx2 : Ext w1 w2)
    (hu : Ow (kActE D) 87 w3 w2.heap.size S u s.acts) (hx3 : Ext w2 w3) (hq : q = w3.heap.size) : TwinP w D s (.returned (ptr q)) (w3.alloc (.cells (dkC s o1 o2 u) 56)) := by
  have hl1 := t1.lt
  have hl2 := t2.lt
  have hle1 := hx1.le
  have hle2 := hx2.le
  have hle3 := hx3.le
  have hxa : Ext w3 (w3.alloc (.cells (dkC s o1 o2 u) 56)) := (Ext.refl _).alloc _
  have hza : (w3.alloc (.cells (dkC s o1 o2 u) 56)).heap.size = w3.heap.size + 1 := by rw [World.size_alloc]
  have hox : ∀ k, u.ownBlock = some k → w2.heap.size ≤ k ∧ k < w3.heap.size := fun k hk => ⟨hu.from_ k hk, hu.lt k hk⟩
  refine ⟨q, fun k => k = q ∨ k = o1 ∨ k = o2 ∨ u.ownBlock = some k, fun k => D k ∨ (o1 < k ∧ k < w1.heap.size) ∨ (o2 < k ∧ k < w2.heap.size), rfl, ⟨o1, o2, u, ?_⟩, ((hx1.trans hx2).trans hx3).trans hxa, ?_, ?_⟩
  · have hlt : ∀ k, (D k ∨ (o1 < k ∧ k < w1.heap.size) ∨ (o2 < k ∧ k < w2.heap.size)) → k < w2.heap.size := fun k hk => by
      rcases hk with hk | hk | hk
      · have := h.ltD k hk; omega
      · omega
      · omega
    constructor
    case blk => exact heap_new w3 q hq.symm _
    case sees =>
      refine (((t1.bound.ext hx2).ext hx3).ext hxa).mono fun k hk => ?_
      have h1 := hk.1.1
      have h2 := hk.1.2
      exact .inr (.inl ⟨by omega, hk.2⟩)
    case lasts =>
      refine ((t2.bound.ext hx3).ext hxa).mono fun k hk => ?_
      have h1 := hk.1.1
      have h2 := hk.1.2
      exact .inr (.inr ⟨by omega, hk.2⟩)
    case acts =>
      refine (ActR.of hu (fun _ h => .inl h) (fun k hk => by have := hlt k hk; omega) fun k hk he => ?_).upd (hxa.upd fun _ => False) (fun _ _ h => h) (fun _ _ h => h)
      have := hox k hk
      have := hlt k he
      omega
    case inM =>
      rintro k (rfl | rfl | rfl | hk)
      · exact .inl rfl
      · exact .inr (.inl rfl)
      · exact .inr (.inr (.inl rfl))
      · exact .inr (.inr (.inr hk))
    case apart =>
      rintro k hk hm
      have h1 := hlt k hk
      rcases hm with rfl | rfl | rfl | hm
      · omega
      · rcases hk with hk | hk | hk
        · have := h.ltD _ hk; omega
        · omega
        · omega
      · rcases hk with hk | hk | hk
        · have := h.ltD _ hk; omega
        · omega
        · omega
      · have := hox k hm; omega
    case ne =>
      refine ⟨by omega, by omega, by omega, fun e => ?_, fun e => ?_, fun e => ?_⟩
      · have := hox _ e; omega
      · have := hox _ e; omega
      · have := hox _ e; omega
    case ltM =>
      rintro k (rfl | rfl | rfl | hk)
      · omega
      · omega
      · omega
      · have := hox k hk; omega
    case ltD => exact fun k hk => by have := hlt k hk; omega
    case ok => exact h.ok
  · rintro k (rfl | rfl | rfl | hk)
    · omega
    · omega
    · omega
    · have := hox k hk; omega
  · rintro k (hk | hk | hk)
    · exact .inl hk
    · exact .inr (by omega)
    · exact .inr (by omega)
set_option maxRecDepth 100000 in
set_option maxHeartbeats 8000000 in
theorem Twin_calls (w : World) (p : Nat) (M D : Nat → Prop) (s : DkS) (h : DkX w p M D s) (hc : s.acts.length ≤ 1000000) : Calls Try.prog 27 #[ptr p] w (TwinP w D s) := by
  obtain ⟨b1, b2, av, h⟩ := h
  obtain ⟨A, c, hav, hl1, hl2, hl3, -⟩ := h.acts.rs
  subst hav
  have HH := Lib.hid h
  have HC := Lib.hid hc
  have HS := Lib.hid (show ∀ W : World, Ext w W → Ext w W ∧ W.cell? ⟨p, 0, none⟩ = some (.bool s.off) ∧ W.cell? ⟨p, 1, none⟩ = some (.int .i64 s.left) ∧ W.cell? ⟨p, 2, none⟩ = some (.int .i64 s.keep) ∧ W.cell? ⟨p, 3, none⟩ = some (.int .i64 s.tear) ∧ W.cell? ⟨p, 4, none⟩ = some (.int .i64 s.room) ∧ W.cell? ⟨p, 5, none⟩ = some (.map (some b1)) ∧ W.cell? ⟨p, 6, none⟩ = some (.map (some b2)) ∧ W.cell? ⟨p, 7, none⟩ = some (.slice A s.acts.length c) from
    fun W he => ⟨he, cell_blk (h.ext he).blk 0, cell_blk (h.ext he).blk 1, cell_blk (h.ext he).blk 2, cell_blk (h.ext he).blk 3, cell_blk (h.ext he).blk 4, cell_blk (h.ext he).blk 5, cell_blk (h.ext he).blk 6, cell_blk (h.ext he).blk 7⟩)
  have HL1 := Lib.hid (show s.seen.length ≤ 100000 by have := h.ok.seen_len; omega)
  have HL2 := Lib.hid (show s.last.length ≤ 100000 by have := h.ok.files; omega)
  have HC4 := Lib.hid (show s.acts.length * 40 ≤ 140737488355328 by omega)
  have HAR := Lib.hid (show ∀ W : World, Ext w W → Rs (kActE D) W (fun k => D k ∨ (Value.slice A s.acts.length c).ownBlock = some k) (.slice A s.acts.length c) s.acts from fun W he => (h.ext he).acts.rs)
  have hlt := blk_lt h.blk
  have hc5 : w.cell? ⟨p, 5, none⟩ = some (.map (some b1)) := cell_blk h.blk 5
  have qE := eqlMap
  clear h hc
  unfold ptr
  go_enter Try.func27, Try.ntmps27
  go_upto_region 3 with fail
  go_region_held3 (fun W => Ext w W ∧ W.cell? ⟨p, 0, none⟩ = some (.bool s.off) ∧ W.cell? ⟨p, 1, none⟩ = some (.int .i64 s.left) ∧ W.cell? ⟨p, 2, none⟩ = some (.int .i64 s.keep) ∧ W.cell? ⟨p, 3, none⟩ = some (.int .i64 s.tear) ∧ W.cell? ⟨p, 4, none⟩ = some (.int .i64 s.room) ∧ W.cell? ⟨p, 5, none⟩ = some (.map (some b1)) ∧ W.cell? ⟨p, 6, none⟩ = some (.map (some b2)) ∧ W.cell? ⟨p, 7, none⟩ = some (.slice A s.acts.length c))
    (first | exact HS.out _ (Ext.refl _).drew | exact HS.out _ hx1 | exact HS.out _ hx2 | exact HS.out _ hx3 | exact HS.out _ (hx3.alloc _))
    (first | (go_at_call 48; (with_reducible refine (copied_calls _ b1 D s.seen (HH.out.ext (Ext.refl _).drew).sees HL1.out).mono ?_); rintro e w1 ⟨rfl, ht1, he1⟩; have hx1 : Ext w w1 := (Ext.refl _).drew.trans he1) | (go_at_call 48; (with_reducible refine (copied_calls _ b2 D s.last (HH.out.ext hx1).lasts HL2.out).mono ?_); rintro e w2 ⟨rfl, ht2, he2⟩; have hx2 : Ext w w2 := hx1.trans he2) | (go_at_call 57; (with_reducible refine (CloneAct_calls _ D _ _ _ (HAR.out _ hx2) HC4.out).mono ?_); rintro e w3 ⟨u, rfl, ho3, he3⟩; obtain ⟨A3, c3, hu3, -, -, -, -⟩ := ho3.rs; subst hu3; have hx3 : Ext w w3 := hx2.trans he3))
  all_goals
    have HE := Lib.hid (twin_end (HH.out.ext (Ext.refl _).drew) rfl ht1 he1 rfl ht2 he2 ho3 he3 rfl)
    clear ht1 he1 ht2 he2 ho3 he3 hx1 hx2 hx3
    go_wp2_with fail
    go_ret
    obtain ⟨q, M2, D2, e, h1, h2, h3, h4⟩ := HE.out
    exact ⟨q, M2, D2, e, h1, (Ext.refl _).drew.trans h2, h3, h4⟩
end Go.Proofs.Ytjjhmknlhfijjaa
namespace Go.Proofs
open Go.Shelf
def Try.keysA_ren : Go.Shelf.Ren := ⟨fun | 7 => 54 | 10 => 73 | n => n, fun | 23 => 53 | 26 => 9 | 3 => 23 | 28 => 82 | 0 => 0 | 27 => 81 | 33 => 98 | 4 => 4 | n => n, fun | n => n⟩
theorem Try.keysA : Go.Proofs.SlLaysZ.n7 Try.prog Try.keysA_ren := {
  mixed := by kernel_rfl
  f7 := ⟨Try.f54.name, by decide, Try.func54.trans (congrArg some (by kernel_rfl))⟩
  f10 := ⟨Try.f73.name, by decide, Try.func73.trans (congrArg some (by kernel_rfl))⟩
  t0 := Try.underlying0
  a0 := Try.isAgg0
  z0 := Try.sizeOf0
  v0 := Try.zeroValue0
  t4 := Try.underlying4
  a4 := Try.isAgg4
  z4 := Try.sizeOf4
  v4 := Try.zeroValue4
  t23 := Try.underlying53
  a23 := Try.isAgg53
  z23 := Try.sizeOf53
  v23 := Try.zeroValue53
  t26 := Try.underlying9
  a26 := Try.isAgg9
  z26 := Try.sizeOf9
  v26 := Try.zeroValue9
  t27 := Try.underlying81
  a27 := Try.isAgg81
  z27 := Try.sizeOf81
  v27 := Try.zeroValue81
  t28 := Try.underlying82
  a28 := Try.isAgg82
  z28 := Try.sizeOf82
  v28 := Try.zeroValue82
  t33 := Try.underlying98
  a33 := Try.isAgg98
  z33 := Try.sizeOf98
  v33 := Try.zeroValue98 }
def Try.sortedA_ren : Go.Shelf.Ren := ⟨fun | 6 => 53 | 8 => 71 | 9 => 72 | 11 => 77 | 13 => 79 | 12 => 78 | 23 => 91 | 24 => 92 | 14 => 82 | 15 => 83 | 16 => 84 | 17 => 85 | 18 => 86 | 19 => 87 | 20 => 88 | 21 => 89 | 22 => 90 | 25 => 93 | 26 => 94 | 27 => 95 | 28 => 96 | 29 => 97 | 30 => 98 | 31 => 99 | n => n, fun | 26 => 9 | 28 => 82 | 24 => 38 | 0 => 0 | 3 => 3 | 37 => 48 | 48 => 119 | 50 => 121 | 4 => 4 | 40 => 111 | 39 => 110 | 45 => 116 | 5 => 5 | 9 => 9 | 51 => 122 | 55 => 126 | 57 => 128 | 58 => 129 | 33 => 98 | n => n, fun | n => n⟩
theorem Try.sortedA : Go.Proofs.SlLaysZ.n6 Try.prog Try.sortedA_ren := {
  mixed := by kernel_rfl
  f6 := ⟨Try.f53.name, by decide, Try.func53.trans (congrArg some (by kernel_rfl))⟩
  f8 := ⟨Try.f71.name, by decide, Try.func71.trans (congrArg some (by kernel_rfl))⟩
  f11 := ⟨Try.f77.name, by decide, Try.func77.trans (congrArg some (by kernel_rfl))⟩
  t0 := Try.underlying0
  a0 := Try.isAgg0
  z0 := Try.sizeOf0
  v0 := Try.zeroValue0
  t24 := Try.underlying38
  a24 := Try.isAgg38
  z24 := Try.sizeOf38
  v24 := Try.zeroValue38
  t26 := Try.underlying9
  a26 := Try.isAgg9
  z26 := Try.sizeOf9
  v26 := Try.zeroValue9
  t28 := Try.underlying82
  a28 := Try.isAgg82
  z28 := Try.sizeOf82
  v28 := Try.zeroValue82
  i26 := by kernel_rfl }
def Try.sortA_ren : Go.Shelf.Ren := ⟨fun | 6 => 72 | 8 => 79 | 9 => 78 | 19 => 91 | 20 => 92 | 21 => 82 | 22 => 83 | 23 => 84 | 24 => 85 | 25 => 86 | 26 => 87 | 27 => 88 | 28 => 89 | 29 => 90 | 36 => 93 | 31 => 94 | 32 => 95 | 37 => 96 | 38 => 97 | 39 => 98 | 41 => 99 | n => n, fun | 27 => 38 | 29 => 9 | 3 => 3 | 32 => 48 | 26 => 38 | 0 => 0 | 44 => 119 | 46 => 121 | 4 => 4 | 36 => 111 | 35 => 110 | 41 => 116 | 5 => 5 | 9 => 9 | 53 => 122 | 57 => 126 | 63 => 128 | 64 => 129 | n => n, fun | n => n⟩
theorem Try.sortA : Go.Proofs.SlLaysM.n6 Try.prog Try.sortA_ren := {
  mixed := by kernel_rfl
  f6 := ⟨Try.f72.name, by decide, Try.func72.trans (congrArg some (by kernel_rfl))⟩
  f8 := Try.func79.trans (congrArg some (by kernel_rfl))
  f9 := ⟨Try.f78.name, by decide, Try.func78.trans (congrArg some (by kernel_rfl))⟩
  f19 := Try.func91.trans (congrArg some (by kernel_rfl))
  f20 := Try.func92.trans (congrArg some (by kernel_rfl))
  f21 := ⟨Try.f82.name, by decide, Try.func82.trans (congrArg some (by kernel_rfl))⟩
  f22 := ⟨Try.f83.name, by decide, Try.func83.trans (congrArg some (by kernel_rfl))⟩
  f23 := ⟨Try.f84.name, by decide, Try.func84.trans (congrArg some (by kernel_rfl))⟩
  f24 := ⟨Try.f85.name, by decide, Try.func85.trans (congrArg some (by kernel_rfl))⟩
  f25 := ⟨Try.f86.name, by decide, Try.func86.trans (congrArg some (by kernel_rfl))⟩
  f26 := ⟨Try.f87.name, by decide, Try.func87.trans (congrArg some (by kernel_rfl))⟩
  f27 := ⟨Try.f88.name, by decide, Try.func88.trans (congrArg some (by kernel_rfl))⟩
  f28 := ⟨Try.f89.name, by decide, Try.func89.trans (congrArg some (by kernel_rfl))⟩
  f29 := ⟨Try.f90.name, by decide, Try.func90.trans (congrArg some (by kernel_rfl))⟩
  f31 := Try.func94.trans (congrArg some (by kernel_rfl))
  f32 := Try.func95.trans (congrArg some (by kernel_rfl))
  f36 := ⟨Try.f93.name, by decide, Try.func93.trans (congrArg some (by kernel_rfl))⟩
  f37 := ⟨Try.f96.name, by decide, Try.func96.trans (congrArg some (by kernel_rfl))⟩
  f38 := ⟨Try.f97.name, by decide, Try.func97.trans (congrArg some (by kernel_rfl))⟩
  f39 := ⟨Try.f98.name, by decide, Try.func98.trans (congrArg some (by kernel_rfl))⟩
  f41 := ⟨Try.f99.name, by decide, Try.func99.trans (congrArg some (by kernel_rfl))⟩
  t0 := Try.underlying0
  a0 := Try.isAgg0
  z0 := Try.sizeOf0
  v0 := Try.zeroValue0
  t3 := Try.underlying3
  a3 := Try.isAgg3
  z3 := Try.sizeOf3
  v3 := Try.zeroValue3
  t4 := Try.underlying4
  a4 := Try.isAgg4
  z4 := Try.sizeOf4
  v4 := Try.zeroValue4
  t5 := Try.underlying5
  a5 := Try.isAgg5
  z5 := Try.sizeOf5
  v5 := Try.zeroValue5
  t9 := Try.underlying9
  a9 := Try.isAgg9
  z9 := Try.sizeOf9
  v9 := Try.zeroValue9
  t26 := Try.underlying38
  a26 := Try.isAgg38
  z26 := Try.sizeOf38
  v26 := Try.zeroValue38
  t27 := Try.underlying38
  a27 := Try.isAgg38
  z27 := Try.sizeOf38
  v27 := Try.zeroValue38
  t29 := Try.underlying9
  a29 := Try.isAgg9
  z29 := Try.sizeOf9
  v29 := Try.zeroValue9
  t32 := Try.underlying48
  a32 := Try.isAgg48
  z32 := Try.sizeOf48
  v32 := Try.zeroValue48
  t35 := Try.underlying110
  a35 := Try.isAgg110
  z35 := Try.sizeOf110
  v35 := Try.zeroValue110
  t36 := Try.underlying111
  a36 := Try.isAgg111
  z36 := Try.sizeOf111
  v36 := Try.zeroValue111
  t41 := Try.underlying116
  a41 := Try.isAgg116
  z41 := Try.sizeOf116
  v41 := Try.zeroValue116
  t44 := Try.underlying119
  a44 := Try.isAgg119
  z44 := Try.sizeOf119
  v44 := Try.zeroValue119
  t46 := Try.underlying121
  a46 := Try.isAgg121
  z46 := Try.sizeOf121
  v46 := Try.zeroValue121
  t53 := Try.underlying122
  a53 := Try.isAgg122
  z53 := Try.sizeOf122
  v53 := Try.zeroValue122
  t57 := Try.underlying126
  a57 := Try.isAgg126
  z57 := Try.sizeOf126
  v57 := Try.zeroValue126
  t63 := Try.underlying128
  a63 := Try.isAgg128
  z63 := Try.sizeOf128
  v63 := Try.zeroValue128
  t64 := Try.underlying129
  a64 := Try.isAgg129
  z64 := Try.sizeOf129
  v64 := Try.zeroValue129 }
end Go.Proofs
set_option linter.unusedVariables false
set_option linter.unusedSimpArgs false
namespace Go.Proofs.Ytjjhmknlhfijjaa
open Go.RowKit Go.Maps Go.Sort Go.Shelf

def kStr : Kd Nam := Kd.scalar (fun l => l.length ≤ 9223372036854775807) (fun l => .string ⟨l.toArray⟩) (fun _ => rfl)
theorem opens_str {P : Program} {t : TypeId} (ht : P.underlying t = some .string) (hc : P.cellsOf t = 1) : Opens P t kStr :=
  ⟨hc, fun _ _ _ _ _ _ _ _ _ h hw0 => by
    obtain ⟨s, rfl, _, hl⟩ := DataW.trod_string ht h
    exact ⟨s.data.toList, by show [Value.string s] = [Value.string ⟨s.data.toList.toArray⟩]; rw [Array.toArray_toList], by unfold maxLen at hl; show s.data.toList.length ≤ _; simpa using hl⟩⟩
theorem oStr : Opens Try.prog 9 kStr := opens_str Try.underlying9 (by kernel_rfl)
theorem tStrs : ElemT Try.prog 38 9 (.string ByteArray.empty) 1 16 := ⟨Try.underlying38, by kernel_rfl, rfl, by omega, by omega⟩
theorem sortsS (m : Nat) : AnyZ.SortsIn Try.prog Try.sortedA_ren Fence.wide m :=
  ⟨fun blk off cap ss W hH hblk hsz => callsIn_wide.2 (AnyM.slices_Sort_string Try.sortA blk off cap ss W hH hblk hsz),
   fun p cap W => callsIn_wide.2 (AnyM.slices_Sort_string_none Try.sortA p cap W)⟩
theorem strKeys_encH (L : KL Hd) : strKeys (encH L) = L.map (·.1) := by
  unfold encH strKeys
  simp only [List.map_map]
  rfl
theorem rise_sortS {β : Type} {L : KL β} (h : riseK L) {ss : List (List UInt8)} (hp : ss.Perm (L.map (·.1))) : (ss.mergeSort fun x y => decide (x ≤ y)) = L.map (·.1) := by
  have e := mergeSort_of_perm hp
  rw [show (ss.mergeSort fun x y => decide (x ≤ y)) = ss.mergeSort leB from rfl, e]
  refine List.mergeSort_of_pairwise ?_
  rw [List.pairwise_map]
  refine h.imp fun {a b} h => ?_
  have h1 := (nlt_iff a.1 b.1).1 h
  show decide (a.1 ≤ b.1) = true
  exact decide_eq_true (List.le_of_lt h1)
set_option maxHeartbeats 1000000 in
theorem List_calls (w : World) (p : Nat) (M D : Nat → Prop) (s : DkS) (h : DkX w p M D s) :
    Calls Try.prog 23 #[ptr p] w fun e w' => ∃ v, e = .returned v ∧ Ow kStr 9 w' w.heap.size (w.heap.size ≤ ·) v (listF s) ∧ Ext w w' := by
  obtain ⟨b1, b2, av, h⟩ := h
  have HH := Lib.hid h
  have hb := h.blk
  have hlt := blk_lt hb
  have hc5 : w.cell? ⟨p, 5, none⟩ = some (.map (some b1)) := cell_blk hb 5
  obtain ⟨C, hCL, hown, hCr, hCn⟩ := h.sees
  have hlen := h.ok.seen_len
  rw [← hCL, mapK_len] at hlen
  clear hb h
  unfold ptr
  rcases ho : s.off with _ | _
  · have HR := Lib.hid (rdy_on ho)
    obtain ⟨H, hH⟩ : ∃ H, H = mapK Prod.fst C := ⟨_, rfl⟩
    rw [← hH] at hown
    have hlist : listF s = H.map (·.1) := by
      unfold listF
      rw [ho, ← hCL, hH]
      unfold mapK
      simp only [List.map_map]
      rfl
    have hHl : H.length ≤ 4096 := by rw [hH, mapK_len]; exact hlen
    have hHr : riseK H := by rw [hH]; exact (mapK_rise _).2 hCr
    have hown : w.ownsMap Try.prog 9 hdR b1 H.length (encH H) := hown
    have hsz : Maps.size (encH H) = H.length := size_encH H
    have hmax : Maps.size (encH H) ≤ maxLen := by rw [hsz]; unfold maxLen; omega
    have hbytes : Maps.size (encH H) * 16 ≤ 140737488355328 := by rw [hsz]; omega
    have hnm : ∀ x ∈ H.map (·.1), x.length ≤ 9223372036854775807 := by
      intro x hx
      have h2 := strKeys_le hown Try.underlying9 x (by rw [strKeys_encH]; exact hx)
      unfold maxLen at h2
      exact h2
    have HRY : ∀ W, CallsIn Fence.wide 5 Try.prog 45 #[.pointer (some ⟨p, 0, none⟩)] w W = CallsIn Fence.wide 5 Try.prog 45 #[.pointer (some ⟨p, 0, none⟩)] w W := fun _ => rfl
    have key : Calls Try.prog 23 #[.pointer (some ⟨p, 0, none⟩)] w fun e w' => ∃ (v : Value) (ss : List (List UInt8)), e = .returned v ∧ ss.Perm (strKeys (encH H)) ∧
        w'.ownsRow w.heap.size 9 1 v ss.length ((ss.mergeSort (fun x y => decide (x ≤ y))).map encStr) ∧ (v = .slice none 0 0 ↔ ss = []) ∧ Below w.heap.size w w' := by
      refine (callsIn_wide (n := 6)).1 ?_
      have hbl := hown.lt
      have hseq : SeqGives Fence.wide 2 Try.prog 73 #[.pointer (some ⟨w.heap.size, 0, none⟩)] encStr (fun ss => ss.Perm (strKeys (encH H))) (Maps.size (encH H)) (w.alloc (.cells #[.map (some b1)] 53)) :=
        AnyZ.keys_gives (ρ := Try.keysA_ren) { Try.keysA with } Fence.wide _ trivial rfl (by omega) w.heap.size b1 H.length (encH H) _ (by simp) (by simp) (by
          obtain ⟨es, clock, hb, Ft, hs, hD⟩ := hown
          exact ⟨es, clock, (Below.heap_alloc _ _ b1 hbl).trans hb, Ft, hs, hD⟩)
      have cR : CallsIn Fence.wide 5 Try.prog 45 #[.pointer (some ⟨p, 0, none⟩)] w fun e w' => e = .returned (.int .i64 0) ∧ w = w' := callsIn_wide.2 (by have := ready_calls w p b1 b2 M D s av HH.out; rw [HR.out] at this; exact this)
      have cK : ∀ mb W, CallsIn Fence.wide 5 Try.prog 54 #[.map mb] W fun e w' => e = .returned (.func (.func 73) #[] #[.pointer (some ⟨W.heap.size, 0, none⟩)]) ∧ w' = W.alloc (.cells #[.map mb] 53) := fun mb W => AnyZ.keys_in Try.keysA Fence.wide 5 trivial rfl mb W
      have cS := AnyZ.sorted_in Try.sortedA Fence.wide 5 trivial trivial trivial trivial rfl (by omega) (sortsS _) (enters_of Try.func72 (by kernel_rfl) rfl) 73 #[.pointer (some ⟨w.heap.size, 0, none⟩)] trivial (enters_of Try.func73 (by kernel_rfl) rfl) _ _ hmax hbytes _ hseq
      change CallsIn _ _ Try.prog 53 _ _ _ at cS
      have hfK : Fence.wide.fn 54 := trivial
      have hfS : Fence.wide.fn 53 := trivial
      have hfR : Fence.wide.fn 45 := trivial
      clear hsz HRY hlist hH ho hCL
      refine callsIn_of_wp Try.func23 rfl trivial ?_ rfl
      simp only [Try.ntmps23, List.size_toArray, List.length_cons, List.length_nil, Nat.reduceAdd, Nat.reduceSub, Array.replicate_succ, Array.replicate_zero, List.push_toArray, List.append_toArray, List.nil_append, List.cons_append]
      gi_wp2_with (first
        | (gi_at_call 45; refine cR.mono ?_; rintro e w' ⟨rfl, rfl⟩)
        | (gi_at_call 54; refine (cK _ _).mono ?_; rintro e w' ⟨rfl, rfl⟩)
        | (gi_at_call 53; refine cS.mono ?_; rintro e w' ⟨v, ss, rfl, hS, hrow, hnil, hb⟩))
      go_ret
      exact ⟨v, ss, rfl, hS, ownsRow_base_a hrow (by simp), hnil, ((Below.refl _ w).alloc (Nat.le_refl _) _).trans (hb.mono (by simp))⟩
    refine key.mono ?_
    rintro e w' ⟨v, ss, rfl, hp, hrow, _, hb⟩
    rw [strKeys_encH] at hp
    rw [rise_sortS hHr hp] at hrow
    have hln : ss.length = (H.map (·.1)).length := hp.length_eq
    rw [hln] at hrow
    rw [hlist]
    exact ⟨v, rfl, Ow.of_srow hrow (by rw [List.length_map]; omega) (fun k hk => ownsRow_base hrow k hk) hnm, hb⟩
  · have HR := Lib.hid (rdy_off ho)
    have HU := Lib.hid (show listF s = [] by unfold listF; rw [ho]; rfl)
    clear ho hown
    go_enter Try.func23, Try.ntmps23
    go_wp2_with fail
    refine (ready_calls w p b1 b2 M D s _ HH.out).mono ?_
    rw [HR.out]
    rintro e w' ⟨rfl, rfl⟩
    go_wp2_with fail
    go_ret
    rw [HU.out]
    exact ⟨_, rfl, Ow.nil _ _ _ _ _, Ext.refl _⟩
end Go.Proofs.Ytjjhmknlhfijjaa
set_option linter.unusedVariables false
set_option linter.unusedSimpArgs false
namespace Go.Proofs.Ytjjhmknlhfijjaa
open Go.RowKit

theorem bool_ret {a b : Bool} (h : a = b) : Ending.returned (.bool a) = .returned (.bool b) := by rw [h]
theorem int_ret {k : IntKind} {a b : Int} (h : a = b) : Ending.returned (.int k a) = .returned (.int k b) := by rw [h]

theorem Row.ints_of {w : World} {S : Nat → Prop} {g off : Nat} {cs : Array Value} {t : TypeId} {fz : Nat × Nat} (hb : w.heap[g]? = some (.cells cs t fz)) (hS : S g) {xs : List Int} (hP : ∀ x ∈ xs, I64 x) (hx : ∀ j x, xs[j]? = some x → cs[off + j]? = some (.int .i64 x)) : Row kInt w S (some ⟨g, off, none⟩) xs :=
  Row.of_block hb hS fun j x hj => ⟨[.int .i64 x], ⟨rfl, hP x (List.mem_of_getElem? hj)⟩, fun i u hi => by
    cases i with
    | zero => simp at hi; subst hi; simpa [kInt, Kd.scalar] using hx j x hj
    | succ i => simp at hi⟩
theorem Rs.one_int (W : World) (g e : Nat) (hg : W.heap.size = g) (n : Int) (hn : I64 n) : Rs kInt (W.alloc (.cells #[.int .i64 n] e)) (fun _ => True) (.slice (some ⟨g, 0, none⟩) 1 1) [n] :=
  ⟨_, 1, rfl, by simp, by omega, by simp, Row.ints_of (heap_new W g hg _) trivial (by simpa using hn) fun j x hj => by
    match j, hj with
    | 0, hj => simp at hj; subst hj; rfl⟩
/-- A literal list of numbers. -/
theorem Rs.ints (W : World) (g e : Nat) (hg : W.heap.size = g) (xs : List Int) (hn : ∀ x ∈ xs, I64 x) (hl : xs.length ≤ 1000000) : Rs kInt (W.alloc (.cells (xs.map (Value.int .i64)).toArray e)) (fun _ => True) (.slice (some ⟨g, 0, none⟩) xs.length xs.length) xs :=
  ⟨_, xs.length, rfl, Nat.le_refl _, by omega, by omega, Row.ints_of (heap_new W g hg _) trivial hn fun j x hj => by simp [hj]⟩

/-- Where a number stands first. -/
def idxI : List Int → Int → Int
  | [], _ => -1
  | x :: l, n => if n = x then 0 else if idxI l n < 0 then -1 else idxI l n + 1
/-- Is it there? -/
def hasB (l : List Int) (n : Int) : Bool := decide (n ∈ l)
theorem idxI_bd (l : List Int) (n : Int) : -1 ≤ idxI l n ∧ idxI l n < l.length := by
  induction l with
  | nil => simp [idxI]
  | cons x l ih =>
    simp only [idxI, List.length_cons]
    split
    · omega
    · split <;> omega
theorem idxI_has (l : List Int) (n : Int) : (0 ≤ idxI l n) ↔ hasB l n = true := by
  induction l with
  | nil => simp [idxI, hasB]
  | cons x l ih =>
    simp only [hasB, decide_eq_true_eq, List.mem_cons] at ih ⊢
    simp only [idxI]
    split
    · rename_i h; simp [h]
    · rename_i h
      split
      · rename_i h2
        have : ¬ n ∈ l := by rw [← ih]; omega
        simp [h, this]
      · rename_i h2
        have : n ∈ l := by rw [← ih]; omega
        simp [this]; omega
/-- The search, begun behind k of them. -/
def idxFrom (l : List Int) (n : Int) (k : Nat) : Int := if idxI (l.drop k) n < 0 then -1 else idxI (l.drop k) n + k
theorem idxFrom_zero (l : List Int) (n : Int) : idxFrom l n 0 = idxI l n := by
  have := idxI_bd l n
  simp only [idxFrom, List.drop_zero]; split <;> omega
theorem idxFrom_hit (l : List Int) (k : Nat) (hk : k < l.length) : idxFrom l l[k] k = k := by
  have : l.drop k = l[k] :: l.drop (k + 1) := List.drop_eq_getElem_cons hk
  unfold idxFrom; rw [this]; simp [idxI]
theorem idxFrom_next (l : List Int) (n : Int) (k : Nat) (hk : k < l.length) (hn : n ≠ l[k]) : idxFrom l n k = idxFrom l n (k + 1) := by
  have e : l.drop k = l[k] :: l.drop (k + 1) := List.drop_eq_getElem_cons hk
  have := idxI_bd (l.drop (k + 1)) n
  unfold idxFrom; rw [e]; simp only [idxI, if_neg hn]
  by_cases h : idxI (l.drop (k + 1)) n < 0
  · simp [h]
  · simp [h]; omega
theorem idxFrom_end (l : List Int) (n : Int) : idxFrom l n l.length = -1 := by simp [idxFrom, idxI]

/-- Are two lists one? (A plain name.) -/
def eqL {α : Type} [DecidableEq α] (a b : List α) : Bool := decide (a = b)
theorem eqL_self {α : Type} [DecidableEq α] (a : List α) : eqL a a = true := by simp [eqL]
theorem eqL_iff {α : Type} [DecidableEq α] {a b : List α} : eqL a b = true ↔ a = b := by simp [eqL]

end Go.Proofs.Ytjjhmknlhfijjaa
set_option linter.unusedVariables false
set_option linter.unusedSimpArgs false
namespace Go.Proofs.Ytjjhmknlhfijjaa
open Go.RowKit

/-! ### a call, by value -/
def Kd.named {α β : Type} (f : β → α) (d : Kd α) : Kd β where
  sz := d.sz
  K := fun w S x cs => d.K w S (f x) cs
  len := d.len
  one := d.one
  mono := d.mono
  move := d.move
  bound := d.bound
theorem opens_named {P : Program} {t : TypeId} {α β : Type} {d : Kd α} (f : β → α) (g : α → β) (hg : ∀ a, f (g a) = a) (h : Opens P t d) : Opens P t (Kd.named f d) :=
  ⟨h.1, fun H enc w base spare held fuel cs x hx hw => by
    obtain ⟨a, ha⟩ := h.2 H enc w base spare held fuel cs x hx hw
    exact ⟨g a, by show d.K w _ (f (g a)) cs; rw [hg]; exact ha⟩⟩
def kDDo : Kd DoS := Kd.named (fun d => (d.op, d.name, d.to, d.at_, d.b, d.n, d.keep, d.tear, ())) (Kd.pair kInt (Kd.pair kStr (Kd.pair kStr (Kd.pair kInt (Kd.pair (kSlice kByte) (Kd.pair kInt (Kd.pair kInt (Kd.pair kInt Kd.unit))))))))
theorem oDDo : Opens Try.prog 43 kDDo := opens_named _ (fun (a, b, c, d, e, f, g, h, _) => ⟨a, b, c, d, e, f, g, h⟩) (fun _ => rfl)
  (opens_struct Try.underlying43 (by kernel_rfl) (opensF_cons rfl oInt (opensF_cons rfl oStr (opensF_cons rfl oStr (opensF_cons rfl oInt (opensF_cons rfl oBytes (opensF_cons rfl oInt (opensF_cons rfl oInt (opensF_cons rfl oInt opensF_nil)))))))))
theorem kDDo_iff {w : World} {S : Nat → Prop} {d : DoS} {cs : List Value} : kDDo.K w S d cs ↔ ∃ vb, cs = (doC d vb).toList ∧ DoI d ∧ Rs kByte w S vb d.b := by
  constructor
  · rintro ⟨_, _, rfl, ⟨rfl, h0⟩, _, _, rfl, ⟨rfl, h1⟩, _, _, rfl, ⟨rfl, h2⟩, _, _, rfl, ⟨rfl, h3⟩, _, _, rfl, ⟨vb, rfl, h4⟩, _, _, rfl, ⟨rfl, h5⟩, _, _, rfl, ⟨rfl, h6⟩, _, _, rfl, ⟨rfl, h7⟩, rfl⟩
    exact ⟨vb, rfl, ⟨h0, h1, h2, h3, h5, h6, h7⟩, h4⟩
  · rintro ⟨vb, rfl, ⟨h0, h1, h2, h3, h5, h6, h7⟩, h4⟩
    exact ⟨_, _, rfl, ⟨rfl, h0⟩, _, _, rfl, ⟨rfl, h1⟩, _, _, rfl, ⟨rfl, h2⟩, _, _, rfl, ⟨rfl, h3⟩, _, _, rfl, ⟨vb, rfl, h4⟩, _, _, rfl, ⟨rfl, h5⟩, _, _, rfl, ⟨rfl, h6⟩, _, _, rfl, ⟨rfl, h7⟩, rfl⟩
theorem Row.ddo {w : World} {S : Nat → Prop} {A : Option Addr} {xs : List DoS} (h : Row kDDo w S A xs) {j : Nat} (hj : j < xs.length) : ∃ ad Ab cb, A = some ad ∧ ad.block < w.heap.size ∧ DoI xs[j] ∧ Rs kByte w S (.slice Ab xs[j].b.length cb) xs[j].b ∧
    w.cell? (ad.add (j * 8)) = some (.int .i64 xs[j].op) ∧ w.cell? ⟨(ad.add (j * 8)).block, (ad.add (j * 8)).off + 1, none⟩ = some (.string ⟨xs[j].name.toArray⟩) ∧ w.cell? ⟨(ad.add (j * 8)).block, (ad.add (j * 8)).off + 2, none⟩ = some (.string ⟨xs[j].to.toArray⟩) ∧ w.cell? ⟨(ad.add (j * 8)).block, (ad.add (j * 8)).off + 3, none⟩ = some (.int .i64 xs[j].at_) ∧
    w.cell? ⟨(ad.add (j * 8)).block, (ad.add (j * 8)).off + 4, none⟩ = some (.slice Ab xs[j].b.length cb) ∧ w.cell? ⟨(ad.add (j * 8)).block, (ad.add (j * 8)).off + 5, none⟩ = some (.int .i64 xs[j].n) ∧ w.cell? ⟨(ad.add (j * 8)).block, (ad.add (j * 8)).off + 6, none⟩ = some (.int .i64 xs[j].keep) ∧ w.cell? ⟨(ad.add (j * 8)).block, (ad.add (j * 8)).off + 7, none⟩ = some (.int .i64 xs[j].tear) := by
  obtain ⟨ad, cs, rfl, _, hl, hK, hc⟩ := h.get hj
  obtain ⟨vb, rfl, hi, hb⟩ := kDDo_iff.1 hK
  obtain ⟨Ab, cb, e, _⟩ := id hb
  subst e
  have hg : ∀ i u, (doC xs[j] (.slice Ab xs[j].b.length cb)).toList[i]? = some u → 0 < i → w.cell? ⟨(ad.add (j * 8)).block, (ad.add (j * 8)).off + i, none⟩ = some u := fun i u hu hi => by
    have h := hc i u hu
    rw [← add_of_add] at h
    rw [show (ad.add (j * kDDo.sz)).add i = ⟨(ad.add (j * 8)).block, (ad.add (j * 8)).off + i, none⟩ from by
      show (ad.add (j * 8)).add i = _
      unfold Addr.add
      rw [if_neg (show ¬ i = 0 by omega)]] at h
    exact h
  exact ⟨ad, Ab, cb, rfl, hl, hi, hb, hc 0 _ rfl, hg 1 _ rfl (by decide), hg 2 _ rfl (by decide), hg 3 _ rfl (by decide), hg 4 _ rfl (by decide), hg 5 _ rfl (by decide), hg 6 _ rfl (by decide), hg 7 _ rfl (by decide)⟩

/-! ### which calls may be gone through -/
def minS (l : List DoS) : Nat := (l.map fun d => min d.b.length 32769).sum
def shortF (l : List DoS) : Bool := decide (l.length ≤ 120) && decide (minS (l.take 121) ≤ 32768)
theorem short_len {l : List DoS} (h : shortF l = true) : l.length ≤ 120 := by
  unfold shortF at h
  simp only [Bool.and_eq_true, decide_eq_true_eq] at h
  exact h.1
theorem minS_snoc (l : List DoS) (k : Nat) (h : k < l.length) : minS (l.take (k + 1)) = minS (l.take k) + min l[k].b.length 32769 := by
  rw [List.take_succ_eq_append_getElem h]
  unfold minS
  rw [List.map_append, List.sum_append]
  simp only [List.map_cons, List.map_nil, List.sum_cons, List.sum_nil, Nat.add_zero]
theorem minS_le (l : List DoS) : minS l ≤ l.length * 32769 := by
  unfold minS
  induction l with
  | nil => simp
  | cons x l ih => simp only [List.map_cons, List.sum_cons, List.length_cons]; omega
theorem min_nat (a : Nat) : min (a : Int) 32769 = ((min a 32769 : Nat) : Int) := by omega
set_option maxRecDepth 100000 in
set_option maxHeartbeats 2000000 in
theorem short_calls (w : World) (S : Nat → Prop) (v : Value) (l : List DoS) (hr : Rs kDDo w S v l) :
    Calls Try.prog 25 #[v] w fun e w' => e = .returned (.bool (shortF l)) ∧ w = w' := by
  obtain ⟨A, c, rfl, hl, hc, hz, hrow⟩ := hr
  have HR := Lib.hid hrow
  clear hrow
  go_enter Try.func25, Try.ntmps25
  go_wp2_with fail
  go_loop [3, 4] (fun n i => ∃ k m : Nat, k ≤ l.length ∧ k ≤ 121 ∧ i = .int .i64 k ∧ n = .int .i64 (m : Int) ∧ m ≤ 100000000 ∧ Hid (m = minS (l.take k))) (fun _ i => l.length - (intOf i).toNat)
  case atStart => exact ⟨0, 0, Nat.zero_le _, by omega, rfl, rfl, by omega, Lib.hid rfl⟩
  case round =>
    obtain ⟨k, m, hk, hk2, rfl, rfl, hm, HM⟩ := hrel
    by_cases hlt : k < l.length
    · by_cases h120 : k ≤ 120
      · obtain ⟨ad, Ab, cb, rfl, hbl, hi, hb, x0, x1, x2, x3, x4, x5, x6, x7⟩ := HR.out.ddo hlt
        have HSN := Lib.hid (minS_snoc l k hlt)
        have hmn := min_nat l[k].b.length
        obtain ⟨q, hq⟩ : ∃ q, q = min l[k].b.length 32769 := ⟨_, rfl⟩
        rw [← hq] at hmn HSN
        have hq1 : q ≤ 32769 := by omega
        have hm2 : m + q ≤ 100000000 := by
          have h1 := HSN.out
          have h2 := HM.out
          have h3 := minS_le (l.take (k + 1))
          rw [List.length_take] at h3
          have h4 : min (k + 1) l.length ≤ 121 := by omega
          have h5 : min (k + 1) l.length * 32769 ≤ 121 * 32769 := Nat.mul_le_mul_right _ h4
          omega
        clear hi hb x0 x1 x2 x3 x5 x6 x7 hq
        go_wp2_with fail
        go_round
        case rel => exact ⟨k + 1, m + q, by omega, by omega, by go_num, by go_num, hm2, Lib.hid (by rw [HSN.out, HM.out])⟩
        case measure => simp [intOf]; omega
      · have HF := Lib.hid (show shortF l = false by unfold shortF; rw [decide_eq_false (by omega)]; rfl)
        have hd : decide (l.length ≤ 120) = false := decide_eq_false (by omega)
        have hd2 : decide ((k : Int) ≤ 120) = false := decide_eq_false (by omega)
        have hd3 : decide ((l.length : Int) ≤ 120) = false := decide_eq_false (by omega)
        go_wp2_with fail
        go_ret
        rw [HF.out]
        exact ⟨rfl, rfl⟩
    · obtain rfl : k = l.length := by omega
      by_cases h120 : l.length ≤ 120
      · have HF := Lib.hid (show shortF l = decide ((m : Int) ≤ 32768) by
          have h1 := HM.out
          rw [List.take_length] at h1
          unfold shortF
          rw [decide_eq_true h120, List.take_of_length_le (by omega), ← h1, Bool.true_and]
          exact decide_eq_decide.2 (by omega))
        have hd3 : decide ((l.length : Int) ≤ 120) = true := decide_eq_true (by omega)
        go_wp2_with fail
        go_ret
        rw [HF.out]
        exact ⟨rfl, rfl⟩
      · have HF := Lib.hid (show shortF l = false by unfold shortF; rw [decide_eq_false (by omega)]; rfl)
        have hd3 : decide ((l.length : Int) ≤ 120) = false := decide_eq_false (by omega)
        go_wp2_with fail
        go_ret
        rw [HF.out]
        exact ⟨rfl, rfl⟩
end Go.Proofs.Ytjjhmknlhfijjaa
