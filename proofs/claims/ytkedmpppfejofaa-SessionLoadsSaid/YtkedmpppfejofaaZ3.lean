/-
  Texts of this claim, put together: SesNum, SetRow, SesTab, ShelfS, SesRise, SesOpen, SesSeat.
-/
import Derived.Test.YtkedmpppfejofaaZ2
import Derived.Deep.CutRange
import Derived.Deep.CutBlock
import Derived.Laws.Tables
import Derived.Laws.Rows
import Derived.WalkSpells
import Derived.Shelf.SlIterI.Nil
import Derived.Shelf.SortM.Plain
import Derived.Shelf.SortM.SortNone
import Derived.Shelf.SlMaps.Clone
import Derived.Test.YtkedmpppfejofaaProg
import Derived.Test.YtkedmpppfejofaaZ1
import Derived.Outline
set_option linter.unusedVariables false
set_option linter.unusedSimpArgs false
namespace Go.Proofs.Ytkedmpppfejofaa
open Go.RowKit

def ptrsC (p e : Nat) : Array Value := #[.pointer (some ⟨p, 0, none⟩), .pointer (some ⟨p, 1, none⟩), .pointer (some ⟨p, 2, none⟩), .pointer (some ⟨e, 0, none⟩), .pointer (some ⟨p, 4, none⟩), .pointer (some ⟨p, 5, none⟩), .pointer (some ⟨p, 6, none⟩), .pointer (some ⟨p, 7, none⟩), .pointer (some ⟨p, 8, none⟩), .pointer (some ⟨p, 9, none⟩), .pointer (some ⟨p, 10, none⟩)]
set_option maxRecDepth 100000 in
set_option maxHeartbeats 2000000 in
theorem numbers_calls (w : World) (p : Nat) (s : SeatS) (hp : w.heap[p]? = some (.cells (seatC s) 47 (0, 0))) :
    Calls Try.prog 33 #[.pointer (some ⟨p, 0, none⟩)] w fun e w' => ∃ q, w.heap.size ≤ q ∧ e = .returned (.slice (some ⟨q, 0, none⟩) 11 11) ∧ w'.heap[w.heap.size]? = some (.cells #[.int .i64 s.r.err] 3 (0, 0)) ∧ w'.heap[q]? = some (.cells (ptrsC p w.heap.size) 74 (0, 0)) ∧ Ext w w' := by
  have hc : w.cell? ⟨p, 3, none⟩ = some (.int .i64 s.r.err) := cell_blk hp 3
  have HP := Lib.hid hp
  clear hp
  go_enter Try.func33, Try.ntmps33
  go_upto_region 3 with fail
  obtain ⟨w1, hw1⟩ : ∃ w1, w1 = w.alloc (.cells #[.int .i64 s.r.err] 3) := ⟨_, rfl⟩
  have HX1 := Lib.hid (show Ext w w1 by rw [hw1]; exact (Ext.refl w).alloc _)
  have HB1 := Lib.hid (show w1.heap[w.heap.size]? = some (.cells #[.int .i64 s.r.err] 3 (0, 0)) by rw [hw1]; exact heap_new w _ rfl _)
  obtain ⟨e, he⟩ : ∃ e, e = w.heap.size := ⟨_, rfl⟩
  rw [← he] at HB1
  rw [← hw1, ← he]
  have HE := Lib.hid he
  clear hw1 hc he
  refine ses3 p e ?_
  intros
  rename_i w2 hrel
  have H2 := Lib.hid hrel.out.1
  have HX2 := Lib.hid hrel.out.2
  clear hrel
  go_wp2_with fail
  go_ret
  exact ⟨w1.heap.size, HX1.out.le, rfl, by rw [← HE.out]; exact blk_ext HB1.out HX2.out, by rw [← HE.out]; exact H2.out, HX1.out.trans HX2.out⟩

theorem ptr_at {w : World} {p e q : Nat} {s : SeatS} (hp : w.heap[p]? = some (.cells (seatC s) 47 (0, 0))) (he : w.heap[e]? = some (.cells #[.int .i64 s.r.err] 3 (0, 0))) (hq : w.heap[q]? = some (.cells (ptrsC p e) 74 (0, 0))) {k : Nat} (hk : k < 11) :
    ∃ b i, w.cell? ⟨q, k, none⟩ = some (.pointer (some ⟨b, i, none⟩)) ∧ w.cell? ⟨b, i, none⟩ = some (.int .i64 (s.nums[k]'hk)) := by
  have h1 := cell_blk hq k
  rcases (show k = 0 ∨ k = 1 ∨ k = 2 ∨ k = 3 ∨ k = 4 ∨ k = 5 ∨ k = 6 ∨ k = 7 ∨ k = 8 ∨ k = 9 ∨ k = 10 by omega) with rfl | rfl | rfl | rfl | rfl | rfl | rfl | rfl | rfl | rfl | rfl
  · exact ⟨p, 0, h1, cell_blk hp 0⟩
  · exact ⟨p, 1, h1, cell_blk hp 1⟩
  · exact ⟨p, 2, h1, cell_blk hp 2⟩
  · exact ⟨e, 0, h1, cell_blk he 0⟩
  · exact ⟨p, 4, h1, cell_blk hp 4⟩
  · exact ⟨p, 5, h1, cell_blk hp 5⟩
  · exact ⟨p, 6, h1, cell_blk hp 6⟩
  · exact ⟨p, 7, h1, cell_blk hp 7⟩
  · exact ⟨p, 8, h1, cell_blk hp 8⟩
  · exact ⟨p, 9, h1, cell_blk hp 9⟩
  · exact ⟨p, 10, h1, cell_blk hp 10⟩

/-- May a number be? -/
def inF (n : Int) : Bool := decide (0 ≤ n) && decide (n ≤ 1099511627776)
def chkR8 (r : ReplyS) : Bool := r.nums.all inF
def chk8E (r : ReplyS) : Int := if chkR8 r = true then 0 else 1
theorem chk8_seat (r : ReplyS) : (SeatS.nums ⟨0, 0, 0, r⟩).all inF = chkR8 r := by
  simp [SeatS.nums, chkR8, inF]
theorem inF_iff {n : Int} : inF n = true ↔ 0 ≤ n ∧ n ≤ 1099511627776 := by simp [inF]
theorem all_take_succ {l : List Int} {k : Nat} (hk : k < l.length) (h : ∀ x ∈ l.take k, inF x = true) (h2 : inF l[k] = true) : ∀ x ∈ l.take (k + 1), inF x = true := by
  rw [List.take_succ_eq_append_getElem hk]
  intro x hx
  rcases List.mem_append.1 hx with h3 | h3
  · exact h x h3
  · rw [List.mem_singleton.1 h3]; exact h2
theorem all_no {l : List Int} {k : Nat} (hk : k < l.length) (h2 : ¬ inF l[k] = true) : l.all inF = false := by
  rw [List.all_eq_false]
  exact ⟨l[k], List.getElem_mem hk, h2⟩

set_option maxRecDepth 100000 in
set_option maxHeartbeats 4000000 in
theorem SCheck_calls (w : World) (r : ReplyS) : Calls Try.prog 11 #[.agg (replyC r)] w fun e w' => e = .returned (.int .i64 (chk8E r)) ∧ Ext w w' := by
  obtain ⟨s, hs⟩ : ∃ s : SeatS, s = ⟨0, 0, 0, r⟩ := ⟨_, rfl⟩
  have HS := Lib.hid hs
  have HA := Lib.hid (show s.nums.all inF = chkR8 r by rw [hs]; exact chk8_seat r)
  clear hs
  dsimp only [replyC]
  go_enter Try.func11, Try.ntmps11
  go_wp2_with fail
  obtain ⟨w1, hw1⟩ : ∃ w1, w1 = (w.alloc (.cells (replyC r) 26)).alloc (.cells (seatC s) 47) := ⟨_, rfl⟩
  obtain ⟨p, hpp⟩ : ∃ p, p = w.heap.size + 1 := ⟨_, rfl⟩
  have HX1 := Lib.hid (show Ext w w1 by rw [hw1]; exact ((Ext.refl w).alloc _).alloc _)
  have HB1 := Lib.hid (show w1.heap[p]? = some (.cells (seatC s) 47 (0, 0)) by rw [hw1]; exact heap_new _ p (by simp [hpp]) _)
  rw [HS.out] at hw1
  unfold replyC seatC at hw1
  rw [← hw1, ← hpp]
  clear hw1 hpp
  refine (numbers_calls w1 p s HB1.out).mono ?_
  rintro e w2 ⟨q, hq, rfl, he, hptr, hx⟩
  have HX2 := Lib.hid (HX1.out.trans hx)
  have HP2 := Lib.hid (blk_ext HB1.out hx)
  have HE2 := Lib.hid he
  have HQ2 := Lib.hid hptr
  generalize w1.heap.size = ee at HE2 HQ2
  clear hq he hptr hx HB1 HX1
  have hl11 : s.nums.length = 11 := rfl
  have HL := Lib.hid hl11
  clear hl11
  go_wp2_with fail
  go_loopw [10] (fun i wr => ∃ k : Nat, k ≤ 11 ∧ i = .int .i64 k ∧ Hid (∀ x ∈ s.nums.take k, inF x = true) ∧ Hid (Ext w2 wr)) (fun i _ => 11 - (intOf i).toNat)
  case atStart => exact ⟨0, by omega, rfl, Lib.hid (fun x hx => by simp at hx), Lib.hid (Ext.refl _)⟩
  case round =>
    obtain ⟨k, hk, rfl, HN, HX⟩ := hrel
    by_cases hlt : k < 11
    · obtain ⟨b, i, hc1, hc2⟩ := ptr_at (blk_ext HP2.out HX.out) (blk_ext HE2.out HX.out) (blk_ext HQ2.out HX.out) hlt
      have hkl : k < s.nums.length := hlt
      have HTK := Lib.hid (fun h => all_take_succ hkl HN.out h)
      have HNO := Lib.hid (fun h => all_no (l := s.nums) hkl h)
      generalize s.nums[k] = x at hc2 HTK HNO
      by_cases h1 : x < 0
      · have HF := Lib.hid (show chk8E r = 1 by unfold chk8E; rw [← HA.out, HNO.out (fun h => by have := inF_iff.1 h; omega)]; rfl)
        clear HTK HNO
        go_wp2_with fail
        go_ret
        rw [HF.out]
        exact ⟨rfl, HX2.out.trans HX.out⟩
      · by_cases h2 : 1099511627776 < x
        · have HF := Lib.hid (show chk8E r = 1 by unfold chk8E; rw [← HA.out, HNO.out (fun h => by have := inF_iff.1 h; omega)]; rfl)
          clear HTK HNO
          go_wp2_with fail
          go_ret
          rw [HF.out]
          exact ⟨rfl, HX2.out.trans HX.out⟩
        · have HN2 := Lib.hid (HTK.out (inF_iff.2 (by omega)))
          clear HTK HNO HN
          go_wp2_with fail
          go_roundw
          case rel => exact ⟨k + 1, by omega, by go_num, HN2, HX⟩
          case measure => simp [intOf]; omega
    · obtain rfl : k = 11 := by omega
      have HF := Lib.hid (show chk8E r = 0 by
        unfold chk8E
        rw [← HA.out, if_pos]
        rw [List.all_eq_true]
        intro x hx
        exact HN.out x (by rw [List.take_of_length_le (by rw [HL.out]; exact Nat.le_refl _)]; exact hx))
      clear hlt HN
      go_wp2_with fail
      go_ret
      rw [HF.out]
      exact ⟨rfl, HX2.out.trans HX.out⟩
set_option maxRecDepth 100000 in
set_option maxHeartbeats 4000000 in
theorem rnumbers_calls (w : World) (r : ReplyS) (hI : ReplyI r) : Calls Try.prog 34 #[.agg (replyC r)] w fun e w' => ∃ v, e = .returned v ∧ Ow kInt 3 w' w.heap.size (w.heap.size ≤ ·) v r.nums ∧ Ext w w' := by
  have HI := Lib.hid hI
  clear hI
  dsimp only [replyC]
  go_enter Try.func34, Try.ntmps34
  go_wp2_with fail
  go_ret
  refine ⟨_, rfl, Ow.slit (xs := r.nums) (P := I64) (enc := fun n => .int .i64 n) (h1 := fun _ => rfl) (heap_new _ (w.heap.size + 1) (by simp) _) (Nat.le_succ _) (Nat.le_succ _) (by simp [ReplyS.nums]) (fun x hx => ?_), ((Ext.refl w).alloc _).alloc _⟩
  have h := HI.out
  simp only [ReplyS.nums, List.mem_cons, List.not_mem_nil, or_false] at hx
  rcases hx with rfl | rfl | rfl | rfl | rfl | rfl | rfl | rfl
  · exact h.err
  · exact h.session
  · exact h.gone
  · exact h.added
  · exact h.same
  · exact h.other
  · exact h.cycle
  · exact h.full
set_option maxRecDepth 100000 in
set_option maxHeartbeats 4000000 in
theorem RCheck_calls (w : World) (r : ReplyS) (hI : ReplyI r) : Calls Try.prog 12 #[.agg (replyC r)] w fun e w' => e = .returned (.int .i64 (chk8E r)) ∧ Ext w w' := by
  have HI := Lib.hid hI
  clear hI
  dsimp only [replyC]
  go_enter Try.func12, Try.ntmps12
  go_wp2_with fail
  obtain ⟨w1, hw1⟩ : ∃ w1, w1 = w.alloc (.cells (replyC r) 26) := ⟨_, rfl⟩
  have HX1 := Lib.hid (show Ext w w1 by rw [hw1]; exact (Ext.refl w).alloc _)
  unfold replyC at hw1
  rw [← hw1]
  clear hw1
  refine (rnumbers_calls w1 r HI.out).mono ?_
  rintro e w2 ⟨v, rfl, ho, hx⟩
  have HX2 := Lib.hid (HX1.out.trans hx)
  obtain ⟨A, c, e, -⟩ := _root_.id ho.rs
  subst e
  have HR := Lib.hid ho.rs
  have HC := Lib.hid (show chkR8 r = r.nums.all inF from rfl)
  have hl8 : r.nums.length = 8 := rfl
  have HL := Lib.hid hl8
  clear ho hx HX1 hl8
  generalize r.nums = l at HR HC HL ⊢
  have hll : l.length ≤ 8 := by rw [HL.out]; exact Nat.le_refl _
  clear HL
  go_wp2_with fail
  go_loopw [8] (fun i wr => ∃ k : Nat, k ≤ l.length ∧ i = .int .i64 k ∧ Hid (∀ x ∈ l.take k, inF x = true) ∧ Hid (Ext w2 wr)) (fun i _ => l.length - (intOf i).toNat)
  case atStart => exact ⟨0, by omega, rfl, Lib.hid (fun x hx => by simp at hx), Lib.hid (Ext.refl _)⟩
  case round =>
    obtain ⟨k, hk, rfl, HN, HX⟩ := hrel
    by_cases hlt : k < l.length
    · obtain ⟨ad, rfl, hc1, -⟩ := (HR.out.ext HX.out).shape.2.2.2.2.int hlt
      have HTK := Lib.hid (fun h => all_take_succ hlt HN.out h)
      have HNO := Lib.hid (fun h => all_no hlt h)
      generalize l[k] = x at hc1 HTK HNO
      by_cases h1 : x < 0
      · have HF := Lib.hid (show chk8E r = 1 by unfold chk8E; rw [HC.out, HNO.out (fun h => by have := inF_iff.1 h; omega)]; rfl)
        clear HTK HNO
        go_wp2_with fail
        go_ret
        rw [HF.out]
        exact ⟨rfl, HX2.out.trans HX.out⟩
      · by_cases h2 : 1099511627776 < x
        · have HF := Lib.hid (show chk8E r = 1 by unfold chk8E; rw [HC.out, HNO.out (fun h => by have := inF_iff.1 h; omega)]; rfl)
          clear HTK HNO
          go_wp2_with fail
          go_ret
          rw [HF.out]
          exact ⟨rfl, HX2.out.trans HX.out⟩
        · have HN2 := Lib.hid (HTK.out (inF_iff.2 (by omega)))
          clear HTK HNO HN
          go_wp2_with fail
          go_roundw
          case rel => exact ⟨k + 1, by omega, by go_num, HN2, HX⟩
          case measure => simp [intOf]; omega
    · obtain rfl : k = l.length := by omega
      have HF := Lib.hid (show chk8E r = 0 by
        unfold chk8E
        rw [HC.out, if_pos]
        rw [List.all_eq_true]
        have h := HN.out
        rw [List.take_length] at h
        exact h)
      clear hlt HN
      go_wp2_with fail
      go_ret
      rw [HF.out]
      exact ⟨rfl, HX2.out.trans HX.out⟩
end Go.Proofs.Ytkedmpppfejofaa
set_option linter.unusedVariables false
set_option linter.unusedSimpArgs false
namespace Go.Proofs.Ytkedmpppfejofaa
open Go.RowKit

theorem setRow_upd (W : World) (g : Nat) (cs : Array Value) : Upd (fun b => b = g) W (W.setRow g cs) :=
  ⟨rfl, rfl, rfl, by simp, fun k hk hn => by
    unfold World.setRow
    simp only [Array.getElem?_modify]
    rw [if_neg (fun e => hn (by show k = g; omega))]⟩
theorem Upd.row {S : Nat → Prop} {a b : World} (h : Upd S a b) {g : Nat} (hg : S g ∨ a.heap.size ≤ g) (cs : Array Value) : Upd S a (b.setRow g cs) :=
  ⟨h.os, h.tape, h.output, by simpa using h.size, fun k hk hn => by
    have hne : k ≠ g := fun e => by rcases hg with hg | hg; exact hn (e ▸ hg); omega
    exact ((setRow_upd b g cs).block k (Nat.lt_of_lt_of_le hk h.size) hne).trans (h.block k hk hn)⟩
end Go.Proofs.Ytkedmpppfejofaa
set_option linter.unusedVariables false
set_option linter.unusedSimpArgs false
namespace Go.Proofs.Ytkedmpppfejofaa
open Go.RowKit

/-- The table at block p holds L; its map lies at block b. -/
def TabS (w : World) (p b : Nat) (L : List SeatS) : Prop :=
  w.heap[p]? = some (.cells #[.map (some b)] 54 (0, 0)) ∧ TabM w b L ∧ b ≠ p
section
variable {w w' : World} {p b : Nat} {L : List SeatS}
theorem TabS.ext (h : TabS w p b L) (he : Ext w w') : TabS w' p b L := ⟨blk_ext h.1 he, h.2.1.ext he, h.2.2⟩
end
set_option maxHeartbeats 400000 in
theorem SNew_calls (w : World) : Calls Try.prog 18 #[] w fun e w' => ∃ p b, w.heap.size ≤ p ∧ w.heap.size ≤ b ∧ e = .returned (.pointer (some ⟨p, 0, none⟩)) ∧ TabS w' p b [] ∧ Ext w w' := by
  have hmm := @run_makeMap Try.prog
  go_enter Try.func18, Try.ntmps18
  go_wp2_with fail
  go_ret
  refine ⟨w.heap.size + 1, w.heap.size, by omega, by omega, rfl, ⟨heap_new _ _ (by simp) _, (TabM.made w).ext ((Ext.refl _).alloc _), by omega⟩, ((Ext.refl w).alloc _).alloc _⟩
set_option maxHeartbeats 400000 in
theorem made_calls (w : World) (p b : Nat) (L : List SeatS) (h : TabS w p b L) : Calls Try.prog 36 #[.pointer (some ⟨p, 0, none⟩)] w fun e w' => e = .returned (.bool true) ∧ w = w' := by
  have hc := cell_blk h.1 0
  simp only [List.getElem?_toArray, List.getElem?_cons_zero] at hc
  clear h
  have qN : ∀ (w : World) (r : Option Nat), (binOp .neq 52 (.map r) (.map none)).run Try.prog w = .ok (.bool (!r.isNone)) w := fun w r => run_neq_map_nil w _ _ _ r Try.underlying52
  go_enter Try.func36, Try.ntmps36
  go_wp2_with fail
  go_ret
  exact ⟨rfl, rfl⟩
def idxF (n : Int) : Bool := decide (1 ≤ n) && decide (n ≤ 1099511627776)
set_option maxHeartbeats 400000 in
theorem index_calls (w : World) (n : Int) : Calls Try.prog 35 #[.int .i64 n] w fun e w' => e = .returned (.bool (idxF n)) ∧ w = w' := by
  by_cases h1 : 1 ≤ n
  · by_cases h2 : n ≤ 1099511627776
    · have HF := Lib.hid (show idxF n = true by simp [idxF, h1, h2])
      go_enter Try.func35, Try.ntmps35
      go_wp2_with fail
      go_ret
      rw [HF.out]
      exact ⟨rfl, rfl⟩
    · have HF := Lib.hid (show idxF n = false by simp [idxF, h2])
      go_enter Try.func35, Try.ntmps35
      go_wp2_with fail
      go_ret
      rw [HF.out]
      exact ⟨rfl, rfl⟩
  · have HF := Lib.hid (show idxF n = false by simp [idxF, h1])
    go_enter Try.func35, Try.ntmps35
    go_wp2_with fail
    go_ret
    rw [HF.out]
    exact ⟨rfl, rfl⟩
def askS (L : List SeatS) (n q : Int) : ReplyS × Bool × Int :=
  match findS L n with
  | none => (zeroR, false, 80)
  | some s => if q < s.seq ∨ q < 1 then (zeroR, false, 81) else if q = s.seq then (s.r, true, 0) else if s.seq < q - 1 then (zeroR, false, 82) else (zeroR, false, 0)

theorem results_cell_tmp2 {fn : Func} {p u v : Tmp} {ty : TypeId} (h : fn.results = #[.cell p ty, .tmp u, .tmp v]) (tmps : Array Value) (P : Program) (w : World) :
    (results fn tmps).run P w =
      ((asAddr (tmps.getD p undef)).run P w).andThen fun a w₁ => ((loadVar ty a).run P w₁).andThen fun x w₂ => .ok (.tuple #[x, tmps.getD u undef, tmps.getD v undef]) w₂ := by
  simp only [results, h]
  simp [Sem.run_bind, Result.andThen]
theorem rep8 : (Try.prog.info? 26).map (·.size) = some 8 := by kernel_rfl
theorem results_reply {fn : Func} {p u v : Tmp} (h : fn.results = #[.cell p 26, .tmp u, .tmp v]) (tmps : Array Value) (w : World) (g : Nat) (t : TypeId) (r : ReplyS) (fr : Nat × Nat) (hp : tmps.getD p undef = .pointer (some ⟨g, 0, none⟩)) (hg : w.heap[g]? = some (.cells (replyC r) t fr)) :
    (results fn tmps).run Try.prog w = .ok (.tuple #[.agg (replyC r), tmps.getD u undef, tmps.getD v undef]) w := by
  rw [results_cell_tmp2 h, hp]
  simp only [asAddr, Sem.run_pure, Result.andThen_ok]
  rw [run_loadVar_row w g t 26 (replyC r) fr _ hg Try.underlying26 rfl rep8]
  rfl
theorem rep_cells {W : World} {g : Nat} {r : ReplyS} {t : TypeId} (h : W.heap[g]? = some (.cells (replyC r) t (0, 0))) :
    W.cell? ⟨g, 0, none⟩ = some (.int .i64 r.err) ∧ W.cell? ⟨g, 1, none⟩ = some (.int .i64 r.session) ∧ W.cell? ⟨g, 2, none⟩ = some (.int .i64 r.gone) ∧ W.cell? ⟨g, 3, none⟩ = some (.int .i64 r.added) ∧ W.cell? ⟨g, 4, none⟩ = some (.int .i64 r.same) ∧ W.cell? ⟨g, 5, none⟩ = some (.int .i64 r.other) ∧ W.cell? ⟨g, 6, none⟩ = some (.int .i64 r.cycle) ∧ W.cell? ⟨g, 7, none⟩ = some (.int .i64 r.full) :=
  ⟨cell_blk h 0, cell_blk h 1, cell_blk h 2, cell_blk h 3, cell_blk h 4, cell_blk h 5, cell_blk h 6, cell_blk h 7⟩
theorem repC_one (r : ReplyS) : (replyC r).all (·.oneCell') = true := by simp [replyC, Value.oneCell']
set_option maxRecDepth 100000 in
set_option maxHeartbeats 4000000 in
theorem Ask_calls (w : World) (p b : Nat) (L : List SeatS) (n q : Int) (hn : I64 n) (hq : I64 q) (h : TabS w p b L) :
    Calls Try.prog 17 #[.pointer (some ⟨p, 0, none⟩), .int .i64 n, .int .i64 q] w fun e w' => e = .returned (.tuple #[.agg (replyC (askS L n q).1), .bool (askS L n q).2.1, .int .i64 (askS L n q).2.2]) ∧ Ext w w' := by
  have HT := Lib.hid h
  have HN := Lib.hid hn
  clear h hn
  go_enter Try.func17, Try.ntmps17
  go_wp2_with fail
  obtain ⟨w1, hw1⟩ : ∃ w1, w1 = (w.alloc (.cells (replyC zeroR) 26)).alloc (.cells (replyC zeroR) 26) := ⟨_, rfl⟩
  have HX1 := Lib.hid (show Ext w w1 by rw [hw1]; exact ((Ext.refl w).alloc _).alloc _)
  have HB1 := Lib.hid (show w1.heap[w.heap.size]? = some (.cells (replyC zeroR) 26 (0, 0)) by rw [hw1]; exact blk_ext (heap_new w _ rfl _) ((Ext.refl _).alloc _))
  have HB2 := Lib.hid (show w1.heap[w.heap.size + 1]? = some (.cells (replyC zeroR) 26 (0, 0)) by rw [hw1]; exact heap_new _ _ (by simp) _)
  unfold replyC zeroR at hw1
  rw [← hw1]
  clear hw1
  refine (made_calls w1 p b L (HT.out.ext HX1.out)).mono ?_
  rintro e w' ⟨rfl, rfl⟩
  have hc := cell_blk (HT.out.ext HX1.out).1 0
  simp only [List.getElem?_toArray, List.getElem?_cons_zero] at hc
  have hlk := (HT.out.ext HX1.out).2.1.look HN.out
  have HA := Lib.hid (show askS L n q = match findS L n with
    | none => (zeroR, false, 80)
    | some s => if q < s.seq ∨ q < 1 then (zeroR, false, 81) else if q = s.seq then (s.r, true, 0) else if s.seq < q - 1 then (zeroR, false, 82) else (zeroR, false, 0) from rfl)
  rcases hf : findS L n with _ | s
  · rw [hf] at hlk
    have HF := Lib.hid (show askS L n q = (zeroR, false, 80) by rw [HA.out, hf])
    clear hf
    simp only [Option.getD_none, Option.isSome_none] at hlk
    simp only [seatC, zeroS, zeroR] at hlk
    obtain ⟨x0, x1, x2, x3, x4, x5, x6, x7⟩ := rep_cells HB2.out
    simp only [zeroR] at x0 x1 x2 x3 x4 x5 x6 x7
    go_upto_region 6 with fail
    obtain ⟨w2, hw2⟩ : ∃ w2, w2 = w1.alloc (.cells (seatC zeroS) 47) := ⟨_, rfl⟩
    have hx2 : Ext w1 w2 := by rw [hw2]; exact (Ext.refl _).alloc _
    have HB21 := Lib.hid (blk_ext HB1.out hx2)
    have HB22 := Lib.hid (blk_ext HB2.out hx2)
    have HX2 := Lib.hid (HX1.out.trans hx2)
    unfold seatC zeroS zeroR at hw2
    rw [← hw2]
    clear hw2 hx2 x0 x1 x2 x3 x4 x5 x6 x7
    obtain ⟨x0, x1, x2, x3, x4, x5, x6, x7⟩ := rep_cells HB22.out
    simp only [zeroR] at x0 x1 x2 x3 x4 x5 x6 x7
    have HSM := Lib.hid (setRow_heap w2 w.heap.size _ (replyC zeroR) 26 (0, 0) HB21.out)
    have HSU := Lib.hid (setRow_upd w2 w.heap.size (replyC zeroR))
    go_wp2_with (refine wpList_store_row rfl 26 (.tmp 6) (.tmp 29) rfl w.heap.size (replyC zeroR) rfl rfl 26 _ HB21.out rep8 rfl (repC_one _) ?_)
    (try go_wp2_with fail)
    (try simp only [Exit.inBlock, Exit.then])
    refine bodyPost_ret (results_reply rfl _ _ _ _ _ _ rfl HSM.out) rfl ?_
    rw [HF.out]
    exact ⟨rfl, HSU.out.ext HX2.out (fun k hk => by have hk' : k = w.heap.size := hk; omega)⟩
  · rw [hf] at hlk
    simp only [Option.getD_some, Option.isSome_some, seatC] at hlk
    have HAS := Lib.hid (show askS L n q = if q < s.seq ∨ q < 1 then (zeroR, false, 81) else if q = s.seq then (s.r, true, 0) else if s.seq < q - 1 then (zeroR, false, 82) else (zeroR, false, 0) by rw [HA.out, hf])
    clear hf HA
    go_upto_region 5 with fail
    obtain ⟨w2, hw2⟩ : ∃ w2, w2 = w1.alloc (.cells (seatC s) 47) := ⟨_, rfl⟩
    obtain ⟨g, hg⟩ : ∃ g, g = w1.heap.size := ⟨_, rfl⟩
    have hx2 : Ext w1 w2 := by rw [hw2]; exact (Ext.refl _).alloc _
    have HB21 := Lib.hid (blk_ext HB1.out hx2)
    have HB22 := Lib.hid (blk_ext HB2.out hx2)
    have HBS := Lib.hid (show w2.heap[g]? = some (.cells (seatC s) 47 (0, 0)) by rw [hw2]; exact heap_new w1 g hg.symm _)
    have HX2 := Lib.hid (HX1.out.trans hx2)
    unfold seatC at hw2
    rw [← hw2, ← hg]
    clear hw2 hx2 hg hlk hc
    obtain ⟨x0, x1, x2, x3, x4, x5, x6, x7⟩ := rep_cells HB22.out
    simp only [zeroR] at x0 x1 x2 x3 x4 x5 x6 x7
    have y1 : w2.cell? ⟨g, 1, none⟩ = some (.int .i64 s.seq) := cell_blk HBS.out 1
    have y3 : w2.cell? ⟨g, 3, none⟩ = some (.int .i64 s.r.err) := cell_blk HBS.out 3
    have y4 : w2.cell? ⟨g, 4, none⟩ = some (.int .i64 s.r.session) := cell_blk HBS.out 4
    have y5 : w2.cell? ⟨g, 5, none⟩ = some (.int .i64 s.r.gone) := cell_blk HBS.out 5
    have y6 : w2.cell? ⟨g, 6, none⟩ = some (.int .i64 s.r.added) := cell_blk HBS.out 6
    have y7 : w2.cell? ⟨g, 7, none⟩ = some (.int .i64 s.r.same) := cell_blk HBS.out 7
    have y8 : w2.cell? ⟨g, 8, none⟩ = some (.int .i64 s.r.other) := cell_blk HBS.out 8
    have y9 : w2.cell? ⟨g, 9, none⟩ = some (.int .i64 s.r.cycle) := cell_blk HBS.out 9
    have y10 : w2.cell? ⟨g, 10, none⟩ = some (.int .i64 s.r.full) := cell_blk HBS.out 10
    have hq' := hq
    by_cases h1 : q < s.seq
    · have HF := Lib.hid (show askS L n q = (zeroR, false, 81) by rw [HAS.out, if_pos (.inl h1)])
      have HSM := Lib.hid (setRow_heap w2 w.heap.size _ (replyC zeroR) 26 (0, 0) HB21.out)
      have HSU := Lib.hid (setRow_upd w2 w.heap.size (replyC zeroR))
      go_wp2_with (refine wpList_store_row rfl 26 (.tmp 6) (.tmp 39) rfl w.heap.size (replyC zeroR) rfl rfl 26 _ HB21.out rep8 rfl (repC_one _) ?_)
      (try go_wp2_with fail)
      (try simp only [Exit.inBlock, Exit.then])
      refine bodyPost_ret (results_reply rfl _ _ _ _ _ _ rfl HSM.out) rfl ?_
      rw [HF.out]
      exact ⟨rfl, HSU.out.ext HX2.out (fun k hk => by have hk' : k = w.heap.size := hk; omega)⟩
    · by_cases h2 : q < 1
      · have HF := Lib.hid (show askS L n q = (zeroR, false, 81) by rw [HAS.out, if_pos (.inr h2)])
        have HSM := Lib.hid (setRow_heap w2 w.heap.size _ (replyC zeroR) 26 (0, 0) HB21.out)
        have HSU := Lib.hid (setRow_upd w2 w.heap.size (replyC zeroR))
        go_wp2_with (refine wpList_store_row rfl 26 (.tmp 6) (.tmp 39) rfl w.heap.size (replyC zeroR) rfl rfl 26 _ HB21.out rep8 rfl (repC_one _) ?_)
        (try go_wp2_with fail)
        (try simp only [Exit.inBlock, Exit.then])
        refine bodyPost_ret (results_reply rfl _ _ _ _ _ _ rfl HSM.out) rfl ?_
        rw [HF.out]
        exact ⟨rfl, HSU.out.ext HX2.out (fun k hk => by have hk' : k = w.heap.size := hk; omega)⟩
      · by_cases h3 : q = s.seq
        · have HF := Lib.hid (show askS L n q = (s.r, true, 0) by rw [HAS.out, if_neg (by omega), if_pos h3])
          have hb3 : (q == s.seq) = true := beq_iff_eq.2 h3
          clear h1 h3
          have h1 : ¬ q < s.seq := by have := beq_iff_eq.1 hb3; omega
          have HSM := Lib.hid (setRow_heap w2 w.heap.size _ (replyC s.r) 26 (0, 0) HB21.out)
          have HSU := Lib.hid (setRow_upd w2 w.heap.size (replyC s.r))
          go_wp2_with (refine wpList_store_row rfl 26 (.tmp 6) (.tmp 46) rfl w.heap.size (replyC s.r) rfl rfl 26 _ HB21.out rep8 rfl (repC_one _) ?_)
          (try go_wp2_with fail)
          (try simp only [Exit.inBlock, Exit.then])
          refine bodyPost_ret (results_reply rfl _ _ _ _ _ _ rfl HSM.out) rfl ?_
          rw [HF.out]
          exact ⟨rfl, HSU.out.ext HX2.out (fun k hk => by have hk' : k = w.heap.size := hk; omega)⟩
        · have hb3 : (q == s.seq) = false := beq_eq_false_iff_ne.2 h3
          have hw : wrap64 (q - 1) = q - 1 := IntWalk.wrap64_in _ (by have := hq.1; have := hq.2; omega)
          by_cases h4 : s.seq < q - 1
          · have HF := Lib.hid (show askS L n q = (zeroR, false, 82) by rw [HAS.out, if_neg (by omega), if_neg h3, if_pos h4])
            have HSM := Lib.hid (setRow_heap w2 w.heap.size _ (replyC zeroR) 26 (0, 0) HB21.out)
            have HSU := Lib.hid (setRow_upd w2 w.heap.size (replyC zeroR))
            go_wp2_with (refine wpList_store_row rfl 26 (.tmp 6) (.tmp 53) rfl w.heap.size (replyC zeroR) rfl rfl 26 _ HB21.out rep8 rfl (repC_one _) ?_)
            (try go_wp2_with fail)
            (try simp only [Exit.inBlock, Exit.then])
            refine bodyPost_ret (results_reply rfl _ _ _ _ _ _ rfl HSM.out) rfl ?_
            rw [HF.out]
            exact ⟨rfl, HSU.out.ext HX2.out (fun k hk => by have hk' : k = w.heap.size := hk; omega)⟩
          · have HF := Lib.hid (show askS L n q = (zeroR, false, 0) by rw [HAS.out, if_neg (by omega), if_neg h3, if_neg h4])
            have HSM := Lib.hid (setRow_heap w2 w.heap.size _ (replyC zeroR) 26 (0, 0) HB21.out)
            have HSU := Lib.hid (setRow_upd w2 w.heap.size (replyC zeroR))
            go_wp2_with (refine wpList_store_row rfl 26 (.tmp 6) (.tmp 54) rfl w.heap.size (replyC zeroR) rfl rfl 26 _ HB21.out rep8 rfl (repC_one _) ?_)
            (try go_wp2_with fail)
            (try simp only [Exit.inBlock, Exit.then])
            refine bodyPost_ret (results_reply rfl _ _ _ _ _ _ rfl HSM.out) rfl ?_
            rw [HF.out]
            exact ⟨rfl, HSU.out.ext HX2.out (fun k hk => by have hk' : k = w.heap.size := hk; omega)⟩
end Go.Proofs.Ytkedmpppfejofaa
namespace Go.Proofs
open Go.Shelf
def Try.keysA_ren : Go.Shelf.Ren := ⟨fun | 7 => 51 | 10 => 62 | n => n, fun | 23 => 52 | 26 => 3 | 3 => 47 | 28 => 95 | 0 => 0 | 27 => 94 | 33 => 77 | 4 => 4 | n => n, fun | n => n⟩
theorem Try.keysA : Go.Proofs.SlLaysZI.n7 Try.prog Try.keysA_ren := {
  mixed := by kernel_rfl
  f7 := ⟨Try.f51.name, by decide, Try.func51.trans (congrArg some (by kernel_rfl))⟩
  f10 := ⟨Try.f62.name, by decide, Try.func62.trans (congrArg some (by kernel_rfl))⟩
  t0 := Try.underlying0
  a0 := Try.isAgg0
  z0 := Try.sizeOf0
  v0 := Try.zeroValue0
  t4 := Try.underlying4
  a4 := Try.isAgg4
  z4 := Try.sizeOf4
  v4 := Try.zeroValue4
  t23 := Try.underlying52
  a23 := Try.isAgg52
  z23 := Try.sizeOf52
  v23 := Try.zeroValue52
  t26 := Try.underlying3
  a26 := Try.isAgg3
  z26 := Try.sizeOf3
  v26 := Try.zeroValue3
  t27 := Try.underlying94
  a27 := Try.isAgg94
  z27 := Try.sizeOf94
  v27 := Try.zeroValue94
  t28 := Try.underlying95
  a28 := Try.isAgg95
  z28 := Try.sizeOf95
  v28 := Try.zeroValue95
  t33 := Try.underlying77
  a33 := Try.isAgg77
  z33 := Try.sizeOf77
  v33 := Try.zeroValue77 }
def Try.sortedA_ren : Go.Shelf.Ren := ⟨fun | 6 => 50 | 8 => 60 | 9 => 61 | 11 => 64 | 13 => 66 | 12 => 65 | 23 => 76 | 24 => 77 | 14 => 67 | 15 => 68 | 16 => 69 | 17 => 70 | 18 => 71 | 19 => 72 | 20 => 73 | 21 => 74 | 22 => 75 | 25 => 78 | 26 => 79 | 27 => 80 | 28 => 81 | 29 => 82 | 30 => 83 | 31 => 84 | n => n, fun | 26 => 3 | 28 => 95 | 24 => 75 | 0 => 0 | 3 => 3 | 37 => 36 | 48 => 124 | 50 => 126 | 4 => 4 | 40 => 116 | 39 => 115 | 45 => 121 | 5 => 5 | 9 => 9 | 51 => 127 | 55 => 74 | 57 => 132 | 58 => 133 | 33 => 77 | n => n, fun | n => n⟩
theorem Try.sortedA : Go.Proofs.SlLaysZI.n6 Try.prog Try.sortedA_ren := {
  mixed := by kernel_rfl
  f6 := ⟨Try.f50.name, by decide, Try.func50.trans (congrArg some (by kernel_rfl))⟩
  f8 := ⟨Try.f60.name, by decide, Try.func60.trans (congrArg some (by kernel_rfl))⟩
  f11 := ⟨Try.f64.name, by decide, Try.func64.trans (congrArg some (by kernel_rfl))⟩
  t0 := Try.underlying0
  a0 := Try.isAgg0
  z0 := Try.sizeOf0
  v0 := Try.zeroValue0
  t24 := Try.underlying75
  a24 := Try.isAgg75
  z24 := Try.sizeOf75
  v24 := Try.zeroValue75
  t26 := Try.underlying3
  a26 := Try.isAgg3
  z26 := Try.sizeOf3
  v26 := Try.zeroValue3
  t28 := Try.underlying95
  a28 := Try.isAgg95
  z28 := Try.sizeOf95
  v28 := Try.zeroValue95
  i26 := by kernel_rfl }
def Try.sortA_ren : Go.Shelf.Ren := ⟨fun | 5 => 61 | 8 => 66 | 7 => 65 | 19 => 76 | 20 => 77 | 10 => 67 | 11 => 68 | 12 => 69 | 13 => 70 | 14 => 71 | 15 => 72 | 16 => 73 | 17 => 74 | 18 => 75 | 30 => 78 | 31 => 79 | 32 => 80 | 33 => 81 | 34 => 82 | 35 => 83 | 40 => 84 | n => n, fun | 23 => 75 | 25 => 3 | 3 => 3 | 32 => 36 | 22 => 75 | 0 => 0 | 44 => 124 | 46 => 126 | 4 => 4 | 36 => 116 | 35 => 115 | 41 => 121 | 5 => 5 | 9 => 9 | 53 => 127 | 57 => 74 | 63 => 132 | 64 => 133 | n => n, fun | n => n⟩
theorem Try.sortA : Go.Proofs.SlLaysM.n5 Try.prog Try.sortA_ren := {
  mixed := by kernel_rfl
  f5 := ⟨Try.f61.name, by decide, Try.func61.trans (congrArg some (by kernel_rfl))⟩
  f7 := ⟨Try.f65.name, by decide, Try.func65.trans (congrArg some (by kernel_rfl))⟩
  f8 := Try.func66.trans (congrArg some (by kernel_rfl))
  f10 := ⟨Try.f67.name, by decide, Try.func67.trans (congrArg some (by kernel_rfl))⟩
  f11 := ⟨Try.f68.name, by decide, Try.func68.trans (congrArg some (by kernel_rfl))⟩
  f12 := ⟨Try.f69.name, by decide, Try.func69.trans (congrArg some (by kernel_rfl))⟩
  f13 := ⟨Try.f70.name, by decide, Try.func70.trans (congrArg some (by kernel_rfl))⟩
  f14 := ⟨Try.f71.name, by decide, Try.func71.trans (congrArg some (by kernel_rfl))⟩
  f15 := ⟨Try.f72.name, by decide, Try.func72.trans (congrArg some (by kernel_rfl))⟩
  f16 := ⟨Try.f73.name, by decide, Try.func73.trans (congrArg some (by kernel_rfl))⟩
  f17 := ⟨Try.f74.name, by decide, Try.func74.trans (congrArg some (by kernel_rfl))⟩
  f18 := ⟨Try.f75.name, by decide, Try.func75.trans (congrArg some (by kernel_rfl))⟩
  f19 := Try.func76.trans (congrArg some (by kernel_rfl))
  f20 := Try.func77.trans (congrArg some (by kernel_rfl))
  f30 := ⟨Try.f78.name, by decide, Try.func78.trans (congrArg some (by kernel_rfl))⟩
  f31 := Try.func79.trans (congrArg some (by kernel_rfl))
  f32 := Try.func80.trans (congrArg some (by kernel_rfl))
  f33 := ⟨Try.f81.name, by decide, Try.func81.trans (congrArg some (by kernel_rfl))⟩
  f34 := ⟨Try.f82.name, by decide, Try.func82.trans (congrArg some (by kernel_rfl))⟩
  f35 := ⟨Try.f83.name, by decide, Try.func83.trans (congrArg some (by kernel_rfl))⟩
  f40 := ⟨Try.f84.name, by decide, Try.func84.trans (congrArg some (by kernel_rfl))⟩
  t0 := Try.underlying0
  a0 := Try.isAgg0
  z0 := Try.sizeOf0
  v0 := Try.zeroValue0
  t3 := Try.underlying3
  a3 := Try.isAgg3
  z3 := Try.sizeOf3
  v3 := Try.zeroValue3
  t4 := Try.underlying4
  a4 := Try.isAgg4
  z4 := Try.sizeOf4
  v4 := Try.zeroValue4
  t5 := Try.underlying5
  a5 := Try.isAgg5
  z5 := Try.sizeOf5
  v5 := Try.zeroValue5
  t9 := Try.underlying9
  a9 := Try.isAgg9
  z9 := Try.sizeOf9
  v9 := Try.zeroValue9
  t22 := Try.underlying75
  a22 := Try.isAgg75
  z22 := Try.sizeOf75
  v22 := Try.zeroValue75
  t23 := Try.underlying75
  a23 := Try.isAgg75
  z23 := Try.sizeOf75
  v23 := Try.zeroValue75
  t25 := Try.underlying3
  a25 := Try.isAgg3
  z25 := Try.sizeOf3
  v25 := Try.zeroValue3
  t32 := Try.underlying36
  a32 := Try.isAgg36
  z32 := Try.sizeOf36
  v32 := Try.zeroValue36
  t35 := Try.underlying115
  a35 := Try.isAgg115
  z35 := Try.sizeOf115
  v35 := Try.zeroValue115
  t36 := Try.underlying116
  a36 := Try.isAgg116
  z36 := Try.sizeOf116
  v36 := Try.zeroValue116
  t41 := Try.underlying121
  a41 := Try.isAgg121
  z41 := Try.sizeOf121
  v41 := Try.zeroValue121
  t44 := Try.underlying124
  a44 := Try.isAgg124
  z44 := Try.sizeOf124
  v44 := Try.zeroValue124
  t46 := Try.underlying126
  a46 := Try.isAgg126
  z46 := Try.sizeOf126
  v46 := Try.zeroValue126
  t53 := Try.underlying127
  a53 := Try.isAgg127
  z53 := Try.sizeOf127
  v53 := Try.zeroValue127
  t57 := Try.underlying74
  a57 := Try.isAgg74
  z57 := Try.sizeOf74
  v57 := Try.zeroValue74
  t63 := Try.underlying132
  a63 := Try.isAgg132
  z63 := Try.sizeOf132
  v63 := Try.zeroValue132
  t64 := Try.underlying133
  a64 := Try.isAgg133
  z64 := Try.sizeOf133
  v64 := Try.zeroValue133 }
def Try.cloneA_ren : Go.Shelf.Ren := ⟨fun | 5 => 41 | 7 => 53 | n => n, fun | 23 => 52 | 25 => 3 | 3 => 47 | 4 => 4 | 20 => 20 | n => n, fun | n => n⟩
theorem Try.cloneA : Go.Proofs.SlLaysW.n5 Try.prog Try.cloneA_ren := {
  mixed := by kernel_rfl
  f5 := ⟨Try.f41.name, by decide, Try.func41.trans (congrArg some (by kernel_rfl))⟩
  f7 := Try.func53.trans (congrArg some (by kernel_rfl))
  t4 := Try.underlying4
  a4 := Try.isAgg4
  z4 := Try.sizeOf4
  v4 := Try.zeroValue4
  t20 := Try.underlying20
  a20 := Try.isAgg20
  z20 := Try.sizeOf20
  v20 := Try.zeroValue20
  t23 := Try.underlying52
  a23 := Try.isAgg52
  z23 := Try.sizeOf52
  v23 := Try.zeroValue52 }
end Go.Proofs
set_option linter.unusedVariables false
set_option linter.unusedSimpArgs false
namespace Go.Proofs.Ytkedmpppfejofaa
open Go.RowKit Go.Maps Go.Sort Go.Shelf

theorem sortsA (m : Nat) : AnyZI.SortsIn Try.prog Try.sortedA_ren Fence.wide m :=
  ⟨fun blk off cap ss W hH hblk hsz => callsIn_wide.2 (AnyM.slices_Sort_int Try.sortA blk off cap ss W hH hblk hsz),
   fun p cap W => callsIn_wide.2 (AnyM.slices_Sort_int_none Try.sortA p cap W)⟩
theorem intKeys_encL (L : List SeatS) : intKeys (encL L) = L.map (·.session) := by
  unfold encL intKeys
  simp only [List.map_map]
  rfl
theorem rise_sort {L : List SeatS} (h : Rise L) {ss : List Int} (hp : ss.Perm (L.map (·.session))) : (ss.mergeSort fun x y => decide (x ≤ y)) = L.map (·.session) := by
  have e := mergeSort_of_perm_i hp
  rw [show (ss.mergeSort fun x y => decide (x ≤ y)) = ss.mergeSort leI from rfl, e]
  refine List.mergeSort_of_pairwise ?_
  rw [List.pairwise_map]
  exact h.imp fun h => by simp only [leI, decide_eq_true_eq]; omega
set_option maxHeartbeats 1000000 in
theorem rising_calls (w : World) (b : Nat) (L : List SeatS) (hr : Rise L) (hi : ∀ s ∈ L, I64 s.session) (hl : L.length ≤ 1000) (hm : TabM w b L) :
    Calls Try.prog 39 #[.map (some b)] w fun e w' => ∃ v, e = .returned v ∧ Ow kInt 3 w' w.heap.size (fun _ => True) v (L.map (·.session)) ∧ Ext w w' := by
  have hown : w.ownsMap Try.prog 3 seatR b L.length (encL L) := hm
  have hsz : Maps.size (encL L) = L.length := size_encL L
  have hmax : Maps.size (encL L) ≤ maxLen := by rw [hsz]; unfold maxLen; omega
  have hbytes : Maps.size (encL L) * 8 ≤ 140737488355328 := by rw [hsz]; omega
  have key : Calls Try.prog 39 #[.map (some b)] w fun e w' => ∃ (v : Value) (ss : List Int), e = .returned v ∧ ss.Perm (intKeys (encL L)) ∧
      w'.ownsRow w.heap.size 3 1 v ss.length ((ss.mergeSort (fun x y => decide (x ≤ y))).map encZ) ∧ (v = .slice none 0 0 ↔ ss = []) ∧ Below w.heap.size w w' := by
    refine (callsIn_wide (n := 6)).1 ?_
    have hbl := hown.lt
    have hseq : SeqGives Fence.wide 2 Try.prog 62 #[.pointer (some ⟨w.heap.size, 0, none⟩)] encZ (fun ss => ss.Perm (intKeys (encL L))) (Maps.size (encL L)) (w.alloc (.cells #[.map (some b)] 52)) :=
      AnyZI.keys_gives (ρ := Try.keysA_ren) { Try.keysA with } Fence.wide _ trivial rfl (by omega) w.heap.size b L.length (encL L) _ (by simp) (by simp) (by
        obtain ⟨es, clock, hb, Ft, hs, hD⟩ := hown
        exact ⟨es, clock, (Below.heap_alloc _ _ b hbl).trans hb, Ft, hs, hD⟩)
    have cK : ∀ mb W, CallsIn Fence.wide 5 Try.prog 51 #[.map mb] W fun e w' => e = .returned (.func (.func 62) #[] #[.pointer (some ⟨W.heap.size, 0, none⟩)]) ∧ w' = W.alloc (.cells #[.map mb] 52) := fun mb W => AnyZI.keys_in Try.keysA Fence.wide 5 trivial rfl mb W
    have cS := AnyZI.sorted_in Try.sortedA Fence.wide 5 trivial trivial trivial trivial rfl (by omega) (sortsA _) (enters_of Try.func61 (by kernel_rfl) rfl) 62 #[.pointer (some ⟨w.heap.size, 0, none⟩)] trivial (enters_of Try.func62 (by kernel_rfl) rfl) _ _ hmax hbytes _ hseq
    change CallsIn _ _ Try.prog 50 _ _ _ at cS
    have hfK : Fence.wide.fn 51 := trivial
    have hfS : Fence.wide.fn 50 := trivial
    clear hsz
    refine callsIn_of_wp Try.func39 rfl trivial ?_ rfl
    simp only [Try.ntmps39, List.size_toArray, List.length_cons, List.length_nil, Nat.reduceAdd, Nat.reduceSub, Array.replicate_succ, Array.replicate_zero, List.push_toArray, List.append_toArray, List.nil_append, List.cons_append]
    gi_wp2_with (first
      | (gi_at_call 51; refine (cK _ _).mono ?_; rintro e w' ⟨rfl, rfl⟩)
      | (gi_at_call 50; refine cS.mono ?_; rintro e w' ⟨v, ss, rfl, hS, hrow, hnil, hb⟩))
    go_ret
    exact ⟨v, ss, rfl, hS, ownsRow_base_a hrow (by simp), hnil, ((Below.refl _ w).alloc (Nat.le_refl _) _).trans (hb.mono (by simp))⟩
  · refine key.mono ?_
    rintro e w' ⟨v, ss, rfl, hp, hrow, _, hb⟩
    rw [intKeys_encL] at hp
    rw [rise_sort hr hp] at hrow
    have hln : ss.length = (L.map (·.session)).length := hp.length_eq
    rw [hln] at hrow
    refine ⟨v, rfl, Ow.of_srow hrow (by rw [List.length_map]; omega) (fun _ _ => trivial) ?_, hb⟩
    intro x hx
    obtain ⟨s, hs, rfl⟩ := List.mem_map.1 hx
    exact hi s hs
end Go.Proofs.Ytkedmpppfejofaa
set_option linter.unusedVariables false
set_option linter.unusedSimpArgs false
namespace Go.Proofs.Ytkedmpppfejofaa
open Go.RowKit

def openS (L : List SeatS) (n : Int) : List SeatS × Int :=
  if idxF n = false ∨ (findS L n).isSome = true then (L, 1) else if 8 ≤ L.length then (L, 7) else (putS L ⟨n, 0, n, zeroR⟩, 0)
theorem findS_session {L : List SeatS} {n : Int} {s : SeatS} (h : findS L n = some s) : s.session = n := by
  have := List.find?_some h
  simpa using this
theorem TabS.upd {w w' : World} {p b : Nat} {L L' : List SeatS} (h : TabS w p b L) (hm : TabM w' b L') (hu : Upd (fun k => k = b) w w') : TabS w' p b L' :=
  ⟨blk_upd h.1 hu (fun e => h.2.2 e.symm), hm, h.2.2⟩
set_option maxRecDepth 100000 in
set_option maxHeartbeats 4000000 in
theorem Open_calls (w : World) (p b : Nat) (L : List SeatS) (n : Int) (hn : I64 n) (hl : L.length ≤ 1000) (h : TabS w p b L) :
    Calls Try.prog 16 #[.pointer (some ⟨p, 0, none⟩), .int .i64 n] w fun e w' => e = .returned (.int .i64 (openS L n).2) ∧ TabS w' p b (openS L n).1 ∧ Upd (fun k => k = b) w w' := by
  have HT := Lib.hid h
  have hc : w.cell? ⟨p, 0, none⟩ = some (.map (some b)) := cell_blk h.1 0
  have hlk := h.2.1.look1 hn
  have hsz := fun ty => h.2.1.size ty
  obtain ⟨wu, hup, hm, hu⟩ := h.2.1.put ⟨n, 0, n, zeroR⟩ hn hl
  have HM := Lib.hid hm
  have HU := Lib.hid hu
  simp only [seatC, zeroR] at hup
  clear h hm hu
  have hfd : ∀ (s : SeatS) (w : World), (Instr.field 47 (.agg #[.int .i64 s.session, .int .i64 s.seq, .int .i64 s.at_, .int .i64 s.r.err, .int .i64 s.r.session, .int .i64 s.r.gone, .int .i64 s.r.added, .int .i64 s.r.same, .int .i64 s.r.other, .int .i64 s.r.cycle, .int .i64 s.r.full]) 0).run Try.prog w = .ok (.int .i64 s.session) w := fun _ _ => by kernel_rfl
  have hfz : ∀ w : World, (Instr.field 47 (.agg #[.int .i64 0, .int .i64 0, .int .i64 0, .int .i64 0, .int .i64 0, .int .i64 0, .int .i64 0, .int .i64 0, .int .i64 0, .int .i64 0, .int .i64 0]) 0).run Try.prog w = .ok (.int .i64 0) w := fun _ => by kernel_rfl
  by_cases h1 : idxF n = true
  · rcases hf : findS L n with _ | s
    · have HF0 := Lib.hid hf
      rw [hf] at hlk
      simp only [Option.getD_none, seatC, zeroS, zeroR] at hlk
      by_cases h8 : 8 ≤ L.length
      · have HF := Lib.hid (show openS L n = (L, 7) by unfold openS; rw [h1, hf, if_neg (by simp), if_pos h8])
        have hd : decide ((8 : Int) ≤ (L.length : Int)) = true := decide_eq_true (by omega)
        go_enter Try.func16, Try.ntmps16
        go_wp2_with fail
        refine (made_calls w p b L HT.out).mono ?_
        rintro e w' ⟨rfl, rfl⟩
        go_wp2_with fail
        refine (index_calls w n).mono ?_
        rw [h1]
        rintro e w' ⟨rfl, rfl⟩
        go_wp2_with fail
        go_ret
        rw [HF.out]
        exact ⟨rfl, HT.out, Upd.refl _ _⟩
      · have HF := Lib.hid (show openS L n = (putS L ⟨n, 0, n, zeroR⟩, 0) by unfold openS; rw [h1, hf, if_neg (by simp), if_neg h8])
        go_enter Try.func16, Try.ntmps16
        go_wp2_with fail
        refine (made_calls w p b L HT.out).mono ?_
        rintro e w' ⟨rfl, rfl⟩
        go_wp2_with fail
        refine (index_calls w n).mono ?_
        rw [h1]
        rintro e w' ⟨rfl, rfl⟩
        go_wp2_with fail
        go_ret
        rw [HF.out]
        exact ⟨rfl, HT.out.upd HM.out HU.out, HU.out⟩
    · have HF := Lib.hid (show openS L n = (L, 1) by unfold openS; rw [hf, if_pos (.inr rfl)])
      have hs := findS_session hf
      rw [hf] at hlk
      simp only [Option.getD_some, seatC] at hlk
      have h0 : 0 < s.session := by rw [hs]; simp [idxF] at h1; omega
      clear hs hf
      go_enter Try.func16, Try.ntmps16
      go_wp2_with fail
      refine (made_calls w p b L HT.out).mono ?_
      rintro e w' ⟨rfl, rfl⟩
      go_wp2_with fail
      refine (index_calls w n).mono ?_
      rw [h1]
      rintro e w' ⟨rfl, rfl⟩
      go_wp2_with fail
      go_ret
      rw [HF.out]
      exact ⟨rfl, HT.out, Upd.refl _ _⟩
  · have h1' : idxF n = false := by simpa using h1
    have HF := Lib.hid (show openS L n = (L, 1) by unfold openS; rw [if_pos (.inl h1')])
    go_enter Try.func16, Try.ntmps16
    go_wp2_with fail
    refine (made_calls w p b L HT.out).mono ?_
    rintro e w' ⟨rfl, rfl⟩
    go_wp2_with fail
    refine (index_calls w n).mono ?_
    rw [h1']
    rintro e w' ⟨rfl, rfl⟩
    go_wp2_with fail
    go_ret
    rw [HF.out]
    exact ⟨rfl, HT.out, Upd.refl _ _⟩
end Go.Proofs.Ytkedmpppfejofaa
set_option linter.unusedVariables false
set_option linter.unusedSimpArgs false
namespace Go.Proofs.Ytkedmpppfejofaa
open Go.RowKit

def SeatI (s : SeatS) : Prop := I64 s.session ∧ I64 s.seq ∧ I64 s.at_ ∧ ReplyI s.r
section
variable {w : World} {S : Nat → Prop}
theorem kSeat_iff {s : SeatS} {cs : List Value} : kSeat.K w S s cs ↔ cs = (seatC s).toList ∧ SeatI s := by
  constructor
  · rintro ⟨_, _, rfl, ⟨rfl, h1⟩, _, _, rfl, ⟨rfl, h2⟩, _, _, rfl, ⟨rfl, h3⟩, _, _, rfl, h4, rfl⟩
    obtain ⟨e, h5⟩ := kReply_iff.1 h4
    rw [e]
    exact ⟨rfl, h1, h2, h3, h5⟩
  · rintro ⟨rfl, h1, h2, h3, h5⟩
    exact ⟨_, _, rfl, ⟨rfl, h1⟩, _, _, rfl, ⟨rfl, h2⟩, _, _, rfl, ⟨rfl, h3⟩, _, _, rfl, kReply_iff.2 ⟨rfl, h5⟩, rfl⟩
end
theorem tSeats : ElemT Try.prog 44 47 (.agg #[.int .i64 0, .int .i64 0, .int .i64 0, .int .i64 0, .int .i64 0, .int .i64 0, .int .i64 0, .int .i64 0, .int .i64 0, .int .i64 0, .int .i64 0]) 11 88 := ⟨Try.underlying44, by kernel_rfl, rfl, by omega, by omega⟩
theorem Rs.one_seat {W : World} {T : Nat → Prop} {g : Nat} {t : TypeId} {s : SeatS} (hb : W.heap[g]? = some (.cells (seatC s) t (0, 0))) (hS : T g) (hs : SeatI s) : Rs kSeat W T (.slice (some ⟨g, 0, none⟩) 1 1) [s] :=
  ⟨_, 1, rfl, by simp, by omega, by simp, Row.of_block hb hS fun j x hj => by
    match j, hj with
    | 0, hj =>
      simp at hj; subst hj
      refine ⟨_, kSeat_iff.2 ⟨rfl, hs⟩, fun i u hi => ?_⟩
      simp only [Nat.zero_mul, Nat.zero_add]
      simpa using hi⟩
theorem find_rise {L : List SeatS} (hr : Rise L) {k : Nat} (hk : k < L.length) : findS L L[k].session = some L[k] := by
  unfold findS
  rcases h : L.find? (fun s => decide (s.session = L[k].session)) with _ | t
  · have := List.find?_eq_none.1 h L[k] (List.getElem_mem hk)
    simp at this
  · have h1 := List.find?_some h
    have h2 := List.mem_of_find?_eq_some h
    rw [h, hr.inj h2 (List.getElem_mem hk) (by simpa using h1)]
set_option maxRecDepth 100000 in
set_option maxHeartbeats 2000000 in
theorem Seats_calls (w : World) (p b : Nat) (L : List SeatS) (hr : Rise L) (hi : ∀ s ∈ L, SeatI s) (hl : L.length ≤ 1000) (h : TabS w p b L) :
    Calls Try.prog 20 #[.pointer (some ⟨p, 0, none⟩)] w fun e w' => ∃ v, e = .returned v ∧ Ow kSeat 47 w' w.heap.size (w.heap.size ≤ ·) v L ∧ Ext w w' := by
  have HT := Lib.hid h
  have hc : w.cell? ⟨p, 0, none⟩ = some (.map (some b)) := cell_blk h.1 0
  clear h
  go_enter Try.func20, Try.ntmps20
  go_wp2_with fail
  refine (made_calls w p b L HT.out).mono ?_
  rintro e w' ⟨rfl, rfl⟩
  go_wp2_with fail
  refine (rising_calls w b L hr (fun s hs => (hi s hs).1) hl HT.out.2.1).mono ?_
  rintro e w1 ⟨v, rfl, ho, hx⟩
  have HO1 := Lib.hid ho.rs
  obtain ⟨A, c, rfl, -, hc1, -, hrow⟩ := ho.rs
  have HR := Lib.hid hrow.bound
  have HX := Lib.hid hx
  clear ho hrow hx hc
  simp only [List.length_map] at hc1 ⊢
  go_wp2_with fail
  go_loopw [3, 15] (fun v i wr => ∃ k : Nat, k ≤ L.length ∧ i = .int .i64 k ∧ Hid (Ow kSeat 47 wr w1.heap.size (w1.heap.size ≤ ·) v (L.take k)) ∧ Hid (Ext w1 wr)) (fun _ i _ => L.length - (intOf i).toNat)
  case atStart => exact ⟨0, Nat.zero_le _, rfl, Lib.hid (Ow.nil _ _ _ _ _), Lib.hid (Ext.refl _)⟩
  case round =>
    obtain ⟨k, hk, rfl, HO, HXr⟩ := hrel
    by_cases hlt : k < L.length
    · have HF := Lib.hid (find_rise hr hlt)
      have HI := Lib.hid (hi L[k] (List.getElem_mem hlt))
      have HTK := Lib.hid (List.take_succ_eq_append_getElem hlt)
      have hTr := HT.out.ext (HX.out.trans HXr.out)
      have hc : wr.cell? ⟨p, 0, none⟩ = some (.map (some b)) := cell_blk hTr.1 0
      have hlk := hTr.2.1.look1 HI.out.1
      rw [HF.out] at hlk
      simp only [Option.getD_some] at hlk
      obtain ⟨ad, rfl, hcell, -⟩ := (HR.out.keep (fun b hb _ => HXr.out.block b hb.2)).int (j := k) (by simpa using hlt)
      simp only [List.getElem_map] at hcell
      obtain ⟨s, hs⟩ : ∃ s, s = L[k] := ⟨_, rfl⟩
      rw [← hs] at hlk hcell HI HTK
      clear hs HF hTr
      simp only [seatC] at hlk
      go_wp2_with (at_builtin; refine wpList_append_Rs kSeat rfl (.tmp 19) (.tmp 26) 44 47 rfl tSeats w1.heap.size _ _ (L.take k) [s] (w1.heap.size ≤ ·) (fun b => b = wr.heap.size) rfl rfl ?co ?cr ?cs ?cn ?cb ?cz ?_)
      case co => exact HO.out.alloc _
      case cr => exact Rs.one_seat (heap_new wr _ rfl _) rfl HI.out
      case cs => exact fun y cs hy => kSeat_iff.2 (kSeat_iff.1 hy)
      case cn => intro b hb; simp at hb; have := HXr.out.le; omega
      case cb => simp only [List.length_take, List.length_cons, List.length_nil]; omega
      case cz => simp; have := HXr.out.le; omega
      intro v' w2 ho hg _
      have HO2 := Lib.hid (show Ow kSeat 47 w2 w1.heap.size (w1.heap.size ≤ ·) v' (L.take (k + 1)) by rw [HTK.out]; exact ho)
      have HX2 := Lib.hid (show Ext w1 w2 from (HXr.out.alloc _).grown hg (fun j hj => HO.out.from_ j hj))
      clear ho hg
      go_wp2_with fail
      go_roundw
      case rel => exact ⟨k + 1, by omega, by go_num, HO2, HX2⟩
      case measure => simp [intOf]; omega
    · obtain rfl : k = L.length := by omega
      have ho2 := HO.out
      rw [List.take_length] at ho2
      have HO2 := Lib.hid ho2
      clear HO ho2
      go_wp2_with fail
      go_ret
      have hle := HX.out.le
      exact ⟨_, rfl, (HO2.out.lower hle).mono (fun b hb => Nat.le_trans hle hb), HX.out.trans HXr.out⟩
end Go.Proofs.Ytkedmpppfejofaa
