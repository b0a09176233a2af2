/-
  Texts of this claim, put together: SesEq, SesEqS, SesDel, SesExp, SesKeepP, SesKeep, SesAwake, SessionChecks.
-/
import Derived.Test.YtkedmpppfejofaaZ3
import Derived.Laws.StructEq
import Derived.Test.YtkedmpppfejofaaZ2
import Derived.Maps.RangeWalk
set_option linter.unusedVariables false
set_option linter.unusedSimpArgs false
namespace Go.Proofs.Ytkedmpppfejofaa
open Go.RowKit

section
variable {P : Program}
theorem eqF_int {d : Nat} {xs ys : Array Value} {f : Field} {fs : List Field} {a b : Int} (W : World) (hn : f.name ≠ "_") (ht : P.underlying f.type = some (.int .i64)) (hx : xs[f.offset]? = some (.int .i64 a)) (hy : ys[f.offset]? = some (.int .i64 b)) :
    (Op.eqFields (d + 1) xs ys (f :: fs)).run P W = if a = b then (Op.eqFields (d + 1) xs ys fs).run P W else .ok false W := by
  have p1 : (part f.type xs f.offset).run P W = .ok (.int .i64 a) W := by simp [part, run_underlying ht, isAgg, hx]
  have p2 : (part f.type ys f.offset).run P W = .ok (.int .i64 b) W := by simp [part, run_underlying ht, isAgg, hy]
  conv => lhs; unfold Op.eqFields
  simp only [hn, ne_eq, not_false_eq_true, if_true, Sem.run_bind, p1, p2, Result.andThen_ok, run_equalIn_int W d f.type .i64 .i64 a b ht]
  by_cases h : a = b
  · simp [h]
  · have h' : (a == b) = false := beq_eq_false_iff_ne.2 h
    simp [h, h']
theorem eqF_agg {d : Nat} {xs ys us vs : Array Value} {f : Field} {fs : List Field} {r : Bool} (W : World) (hn : f.name ≠ "_") (hx : (part f.type xs f.offset).run P W = .ok (.agg us) W) (hy : (part f.type ys f.offset).run P W = .ok (.agg vs) W) (hr : (Op.equalIn d f.type (.agg us) (.agg vs)).run P W = .ok r W) :
    (Op.eqFields d xs ys (f :: fs)).run P W = if r = true then (Op.eqFields d xs ys fs).run P W else .ok false W := by
  conv => lhs; unfold Op.eqFields
  simp only [hn, ne_eq, not_false_eq_true, if_true, Sem.run_bind, hx, hy, hr, Result.andThen_ok]
  cases r <;> simp
theorem eqF_int' {d : Nat} {xs ys : Array Value} {f : Field} {fs : List Field} {a b : Int} {q : Bool} {W : World} (hn : f.name ≠ "_") (ht : P.underlying f.type = some (.int .i64)) (hx : xs[f.offset]? = some (.int .i64 a)) (hy : ys[f.offset]? = some (.int .i64 b)) (h : (Op.eqFields (d + 1) xs ys fs).run P W = .ok q W) :
    (Op.eqFields (d + 1) xs ys (f :: fs)).run P W = .ok (decide (a = b) && q) W := by
  rw [eqF_int W hn ht hx hy, h]
  by_cases h : a = b <;> simp [h]
theorem eqF_agg' {d : Nat} {xs ys us vs : Array Value} {f : Field} {fs : List Field} {r q : Bool} {W : World} (hn : f.name ≠ "_") (hx : (part f.type xs f.offset).run P W = .ok (.agg us) W) (hy : (part f.type ys f.offset).run P W = .ok (.agg vs) W) (hr : (Op.equalIn d f.type (.agg us) (.agg vs)).run P W = .ok r W) (h : (Op.eqFields d xs ys fs).run P W = .ok q W) :
    (Op.eqFields d xs ys (f :: fs)).run P W = .ok (r && q) W := by
  rw [eqF_agg W hn hx hy hr, h]
  cases r <;> simp
theorem eqF_nil {d : Nat} {xs ys : Array Value} (W : World) : (Op.eqFields d xs ys []).run P W = .ok true W := by
  unfold Op.eqFields; rfl
end
def cntC (r : ReplyS) : Array Value := #[.int .i64 r.added, .int .i64 r.same, .int .i64 r.other, .int .i64 r.cycle, .int .i64 r.full]
def beqC (r s : ReplyS) : Bool := decide (r.added = s.added ∧ r.same = s.same ∧ r.other = s.other ∧ r.cycle = s.cycle ∧ r.full = s.full)
theorem fldCounts : (Try.prog.fieldsOf 24).toList = [⟨"Added", 3, 0, false, "", "", 0⟩, ⟨"Same", 3, 1, false, "", "", 8⟩, ⟨"Other", 3, 2, false, "", "", 16⟩, ⟨"Cycle", 3, 3, false, "", "", 24⟩, ⟨"Full", 3, 4, false, "", "", 32⟩] := by kernel_rfl
theorem fldReply : (Try.prog.fieldsOf 26).toList = [⟨"Err", 22, 0, false, "", "", 0⟩, ⟨"Session", 3, 1, false, "", "", 8⟩, ⟨"Gone", 3, 2, false, "", "", 16⟩, ⟨"Counts", 24, 3, false, "", "", 24⟩] := by kernel_rfl
theorem fldSeat : (Try.prog.fieldsOf 47).toList = [⟨"Session", 3, 0, false, "", "", 0⟩, ⟨"Seq", 3, 1, false, "", "", 8⟩, ⟨"At", 3, 2, false, "", "", 16⟩, ⟨"Reply", 26, 3, false, "", "", 24⟩] := by kernel_rfl
theorem uCounts : Try.prog.underlying 24 = some (.struct (Try.prog.fieldsOf 24)) := by unfold Program.fieldsOf; rw [Try.underlying24]
theorem sCounts : Try.prog.stoodInHeld 24 = false := by kernel_rfl
theorem uReply : Try.prog.underlying 26 = some (.struct (Try.prog.fieldsOf 26)) := by unfold Program.fieldsOf; rw [Try.underlying26]
theorem sReply : Try.prog.stoodInHeld 26 = false := by kernel_rfl
theorem uSeat : Try.prog.underlying 47 = some (.struct (Try.prog.fieldsOf 47)) := by unfold Program.fieldsOf; rw [Try.underlying47]
theorem sSeat : Try.prog.stoodInHeld 47 = false := by kernel_rfl
theorem beqC_eq (r s : ReplyS) : beqC r s = (decide (r.added = s.added) && (decide (r.same = s.same) && (decide (r.other = s.other) && (decide (r.cycle = s.cycle) && (decide (r.full = s.full) && true))))) := by
  unfold beqC
  simp only [Bool.decide_and, Bool.and_true]
theorem eq_counts (d : Nat) (W : World) (r s : ReplyS) : (Op.equalIn (d + 2) 24 (.agg (cntC r)) (.agg (cntC s))).run Try.prog W = .ok (beqC r s) W := by
  rw [run_equalIn_agg W (d + 1) 24 _ _ uCounts sCounts, fldCounts, beqC_eq]
  refine eqF_int' (by simp) Try.underlying3 rfl rfl ?_
  refine eqF_int' (by simp) Try.underlying3 rfl rfl ?_
  refine eqF_int' (by simp) Try.underlying3 rfl rfl ?_
  refine eqF_int' (by simp) Try.underlying3 rfl rfl ?_
  refine eqF_int' (by simp) Try.underlying3 rfl rfl ?_
  exact eqF_nil W
def beqR (r s : ReplyS) : Bool := decide (r = s)
theorem beqR_eq (r s : ReplyS) : beqR r s = (decide (r.err = s.err) && (decide (r.session = s.session) && (decide (r.gone = s.gone) && (beqC r s && true)))) := by
  unfold beqR beqC
  obtain ⟨a, b, c, d, e, f, g, h⟩ := r
  obtain ⟨a', b', c', d', e', f', g', h'⟩ := s
  simp [ReplyS.mk.injEq, Bool.decide_and]
theorem eq_reply (d : Nat) (W : World) (r s : ReplyS) : (Op.equalIn (d + 3) 26 (.agg (replyC r)) (.agg (replyC s))).run Try.prog W = .ok (beqR r s) W := by
  have hp : ∀ r : ReplyS, (part 24 (replyC r) 3).run Try.prog W = .ok (.agg (cntC r)) W := fun r => by kernel_rfl
  rw [run_equalIn_agg W (d + 2) 26 _ _ uReply sReply, fldReply, beqR_eq]
  refine eqF_int' (by simp) Try.underlying22 rfl rfl ?_
  refine eqF_int' (by simp) Try.underlying3 rfl rfl ?_
  refine eqF_int' (by simp) Try.underlying3 rfl rfl ?_
  refine eqF_agg' (by simp) (hp r) (hp s) (eq_counts d W r s) ?_
  exact eqF_nil W
theorem reply_eql (W : World) (r s : ReplyS) : (binOp .eql 26 (.agg (replyC r)) (.agg (replyC s))).run Try.prog W = .ok (.bool (beqR r s)) W := by
  rw [run_eql_struct, eq_reply 9997]; rfl
theorem reply_neq (W : World) (r s : ReplyS) : (binOp .neq 26 (.agg (replyC r)) (.agg (replyC s))).run Try.prog W = .ok (.bool (!beqR r s)) W := by
  rw [run_neq_struct, eq_reply 9997]; rfl
def beqS (r s : SeatS) : Bool := decide (r = s)
theorem beqS_eq (r s : SeatS) : beqS r s = (decide (r.session = s.session) && (decide (r.seq = s.seq) && (decide (r.at_ = s.at_) && (beqR r.r s.r && true)))) := by
  unfold beqS beqR
  obtain ⟨a, b, c, d⟩ := r
  obtain ⟨a', b', c', d'⟩ := s
  simp [SeatS.mk.injEq, Bool.decide_and]
theorem eq_seat (d : Nat) (W : World) (r s : SeatS) : (Op.equalIn (d + 4) 47 (.agg (seatC r)) (.agg (seatC s))).run Try.prog W = .ok (beqS r s) W := by
  have hp : ∀ r : SeatS, (part 26 (seatC r) 3).run Try.prog W = .ok (.agg (replyC r.r)) W := fun r => by kernel_rfl
  rw [run_equalIn_agg W (d + 3) 47 _ _ uSeat sSeat, fldSeat, beqS_eq]
  refine eqF_int' (by simp) Try.underlying3 rfl rfl ?_
  refine eqF_int' (by simp) Try.underlying3 rfl rfl ?_
  refine eqF_int' (by simp) Try.underlying3 rfl rfl ?_
  refine eqF_agg' (by simp) (hp r) (hp s) (eq_reply d W r.r s.r) ?_
  exact eqF_nil W
theorem seat_neq (W : World) (r s : SeatS) : (binOp .neq 47 (.agg (seatC r)) (.agg (seatC s))).run Try.prog W = .ok (.bool (!beqS r s)) W := by
  rw [run_neq_struct, eq_seat 9996]; rfl
end Go.Proofs.Ytkedmpppfejofaa
set_option linter.unusedVariables false
set_option linter.unusedSimpArgs false
namespace Go.Proofs.Ytkedmpppfejofaa
open Go.RowKit

theorem Row.seat {w : World} {S : Nat → Prop} {A : Option Addr} {xs : List SeatS} (h : Row kSeat w S A xs) {j : Nat} (hj : j < xs.length) : ∃ ad, A = some ad ∧ S ad.block ∧ ad.block < w.heap.size ∧ SeatI xs[j] ∧ ∀ i u, (seatC xs[j])[i]? = some u → w.cell? (ad.add (j * 11 + i)) = some u := by
  obtain ⟨ad, cs, rfl, hS, hl, hK, hc⟩ := h.get hj
  obtain ⟨rfl, hi⟩ := kSeat_iff.1 hK
  exact ⟨ad, rfl, hS, hl, hi, fun i u hu => hc i u (by simpa using hu)⟩
theorem add_off {a : Addr} {n : Nat} (h : n ≠ 0) : a.add n = { block := a.block, off := a.off + n } := by unfold Addr.add; rw [if_neg (by simpa using h)]
/-- A seat's cells as a load asks for them. -/
theorem seat_at {w : World} {ad : Addr} {k : Nat} {s : SeatS} (h : ∀ i u, (seatC s)[i]? = some u → w.cell? (ad.add (k * 11 + i)) = some u) :
    w.cell? (ad.add (k * 11)) = some (.int .i64 s.session) ∧ w.cell? { block := (ad.add (k * 11)).block, off := (ad.add (k * 11)).off + 1 } = some (.int .i64 s.seq) ∧ w.cell? { block := (ad.add (k * 11)).block, off := (ad.add (k * 11)).off + 2 } = some (.int .i64 s.at_) ∧
    w.cell? { block := (ad.add (k * 11)).block, off := (ad.add (k * 11)).off + 3 } = some (.int .i64 s.r.err) ∧ w.cell? { block := (ad.add (k * 11)).block, off := (ad.add (k * 11)).off + 4 } = some (.int .i64 s.r.session) ∧ w.cell? { block := (ad.add (k * 11)).block, off := (ad.add (k * 11)).off + 5 } = some (.int .i64 s.r.gone) ∧
    w.cell? { block := (ad.add (k * 11)).block, off := (ad.add (k * 11)).off + 6 } = some (.int .i64 s.r.added) ∧ w.cell? { block := (ad.add (k * 11)).block, off := (ad.add (k * 11)).off + 7 } = some (.int .i64 s.r.same) ∧ w.cell? { block := (ad.add (k * 11)).block, off := (ad.add (k * 11)).off + 8 } = some (.int .i64 s.r.other) ∧
    w.cell? { block := (ad.add (k * 11)).block, off := (ad.add (k * 11)).off + 9 } = some (.int .i64 s.r.cycle) ∧ w.cell? { block := (ad.add (k * 11)).block, off := (ad.add (k * 11)).off + 10 } = some (.int .i64 s.r.full) := by
  have h' : ∀ i u, i ≠ 0 → (seatC s)[i]? = some u → w.cell? { block := (ad.add (k * 11)).block, off := (ad.add (k * 11)).off + i } = some u := fun i u hi hu => by
    rw [← add_off hi, add_of_add]; exact h i u hu
  exact ⟨h 0 _ rfl, h' 1 _ (by decide) rfl, h' 2 _ (by decide) rfl, h' 3 _ (by decide) rfl, h' 4 _ (by decide) rfl, h' 5 _ (by decide) rfl, h' 6 _ (by decide) rfl, h' 7 _ (by decide) rfl, h' 8 _ (by decide) rfl, h' 9 _ (by decide) rfl, h' 10 _ (by decide) rfl⟩
set_option maxRecDepth 100000 in
set_option maxHeartbeats 1000000 in
theorem EqualS_calls (w : World) (S T : Nat → Prop) (v u : Value) (xs ys : List SeatS) (h1 : Rs kSeat w S v xs) (h2 : Rs kSeat w T u ys) :
    Calls Try.prog 21 #[v, u] w fun e w' => e = .returned (.bool (eqL xs ys)) ∧ ∃ n, w' = w.drewN n := by
  obtain ⟨A, c, rfl, hl, hc, hz, hrow⟩ := h1
  obtain ⟨A2, c2, rfl, hl2, hc2, hz2, hrow2⟩ := h2
  have HR := Lib.hid hrow
  have HR2 := Lib.hid hrow2
  clear hrow hrow2
  by_cases hle : xs.length = ys.length
  · have hb : ((xs.length : Int) != (ys.length : Int)) = false := by simp [hle]
    have HL := Lib.hid hle
    clear hle
    go_enter Try.func21, Try.ntmps21
    go_wp2
    go_loopw [13] (fun i wr => ∃ k n : Nat, k ≤ xs.length ∧ i = .int .i64 k ∧ Hid (wr = w.drewN n) ∧ Hid (xs.take k = ys.take k)) (fun i _ => xs.length - (intOf i).toNat)
    case atStart => exact ⟨0, 0, Nat.zero_le _, rfl, Lib.hid rfl, Lib.hid rfl⟩
    case round =>
      obtain ⟨k, n, hk, rfl, HW, HQ⟩ := hrel
      by_cases hlt : k < xs.length
      · obtain ⟨ad, rfl, -, -, -, hx⟩ := HR.out.seat hlt
        obtain ⟨ad2, rfl, -, -, -, hy⟩ := HR2.out.seat (j := k) (by rw [← HL.out]; exact hlt)
        have hlt2 : k < ys.length := by rw [← HL.out]; exact hlt
        obtain rfl := HW.out
        obtain ⟨x0, x1, x2, x3, x4, x5, x6, x7, x8, x9, x10⟩ := seat_at hx
        obtain ⟨y0, y1, y2, y3, y4, y5, y6, y7, y8, y9, y10⟩ := seat_at hy
        have hn := fun W => seat_neq W xs[k] ys[k]
        simp only [seatC] at hn
        have hs1 := List.take_succ_eq_append_getElem hlt
        have hs2 := List.take_succ_eq_append_getElem hlt2
        clear hx hy
        by_cases he : xs[k] = ys[k]
        · have HT' := Lib.hid (show xs.take (k + 1) = ys.take (k + 1) by rw [hs1, hs2, HQ.out, he])
          have hq : beqS xs[k] ys[k] = true := decide_eq_true he
          rw [hq] at hn
          clear hs1 hs2 he hq
          go_wp2_with fail
          go_quiet (fail)
          go_wp2_with fail
          go_roundw
          case rel => exact ⟨k + 1, _, by omega, by go_num, Lib.hid rfl, HT'⟩
          case measure => simp [intOf]; omega
        · have HN := Lib.hid (show eqL xs ys = false by
            unfold eqL
            rw [decide_eq_false_iff_not]
            rintro rfl
            exact he rfl)
          have hq : beqS xs[k] ys[k] = false := decide_eq_false he
          rw [hq] at hn
          clear hs1 hs2 he hq
          go_wp2_with fail
          go_quiet (fail)
          go_wp2_with fail
          go_ret
          exact ⟨bool_ret HN.out.symm, _, World.drewN_drewN _ _ _⟩
      · obtain rfl : k = xs.length := by omega
        have HF := Lib.hid (show eqL xs ys = true by
          have := HQ.out
          rw [List.take_length, HL.out, List.take_length] at this
          unfold eqL
          rw [this]; simp)
        have hw := HW.out
        subst hw
        go_wp2_with fail
        go_ret
        exact ⟨bool_ret HF.out.symm, _, rfl⟩
  · have hb : ((xs.length : Int) != (ys.length : Int)) = true := by simp; omega
    have HN := Lib.hid (show eqL xs ys = false by
      unfold eqL
      rw [decide_eq_false_iff_not]
      rintro rfl
      exact hle rfl)
    clear hle
    go_enter Try.func21, Try.ntmps21
    go_wp2_with fail
    go_ret
    exact ⟨bool_ret HN.out.symm, 0, rfl⟩
end Go.Proofs.Ytkedmpppfejofaa
set_option linter.unusedVariables false
set_option linter.unusedSimpArgs false
namespace Go.Proofs.Ytkedmpppfejofaa
open Go.RowKit

set_option maxHeartbeats 400000 in
theorem Exp1_calls (w : World) (n f : Int) (s : SeatS) (c : Nat) (hc : w.heap[c]? = some (.cells #[.int .i64 f] 3 (0, 0))) :
    Calls Try.prog 38 #[.int .i64 n, .agg (seatC s), .pointer (some ⟨c, 0, none⟩)] w fun e w' => e = .returned (.bool (decide (s.at_ < f))) ∧ Ext w w' := by
  have hc0 := cell_blk (blk_ext hc ((Ext.refl w).alloc (.cells (seatC s) 47))) 0
  simp only [List.getElem?_toArray, List.getElem?_cons_zero, seatC] at hc0
  have hc1 : w.cell? ⟨c, 0, none⟩ = some (.int .i64 f) := cell_blk hc 0
  have hlt := blk_lt hc
  clear hc
  dsimp only [seatC]
  by_cases h : s.at_ < f
  · have HF := Lib.hid (decide_eq_true h)
    go_enter Try.func38, Try.ntmps38
    go_wp2_with fail
    go_ret
    rw [HF.out]
    exact ⟨rfl, (Ext.refl w).alloc _⟩
  · have HF := Lib.hid (decide_eq_false h)
    go_enter Try.func38, Try.ntmps38
    go_wp2_with fail
    go_ret
    rw [HF.out]
    exact ⟨rfl, (Ext.refl w).alloc _⟩

set_option maxRecDepth 100000 in
set_option maxHeartbeats 2000000 in
theorem DelFunc_calls (w : World) (b c : Nat) (L : List SeatS) (f : Int) (hr : Rise L) (hm : TabM w b L) (hc : w.heap[c]? = some (.cells #[.int .i64 f] 3 (0, 0))) (hcb : ¬ c = b) :
    Calls Try.prog 37 #[.map (some b), .func (.func 38) #[] #[.pointer (some ⟨c, 0, none⟩)]] w fun e w' => e = .returned (.tuple #[]) ∧ TabM w' b (L.filter fun s => decide (f ≤ s.at_)) ∧ Upd (fun k => k = b) w w' := by
  have HC := Lib.hid hc
  have HM := Lib.hid hm
  clear hc hm
  go_enter Try.func37, Try.ntmps37
  go_wp2_with (at_range; refine wpList_range_own _ rfl (.tmp 6) 52 rfl 3 47 keyedI Try.underlying52 seatR b L.length (encL L) rfl HM.out ?_)
  intro w1 hrg hg hsz
  have HRG := Lib.hid hrg
  have HG := Lib.hid hg
  clear hrg hg hsz
  go_wp2_with fail
  go_loopw [8] (fun u wr => ∃ (left : Lit → Bool) (cnt : Nat), Hid (wr.ranges Try.prog 3 seatR b w.heap.size L.length (encL (curL L f left)) left cnt) ∧ Hid (Upd (fun k => k = b) w wr)) (fun _ wr => wr.rangeLeft b w.heap.size)
  case atStart =>
    refine ⟨Maps.has (encL L), Maps.size (encL L), Lib.hid ?_, Lib.hid ⟨HG.out.os, HG.out.tape, HG.out.output, HG.out.size, fun k hk _ => HG.out.block k hk (by simp)⟩⟩
    rw [curL_all (fun s hs => by rw [has_encL]; exact List.find?_isSome.2 ⟨s, hs, by simp⟩)]
    exact HRG.out
  case round =>
    clear HRG HG
    obtain ⟨left, cnt, HR, HU⟩ := hrel
    go_wp2_with (at_next; refine wpList_next_ranges _ rfl (.tmp 7) rfl 3 keyedI seatR (fun x : Int => .int .i64 x) (fun s : SeatS => .agg (seatC s)) ?ik ?iv b w.heap.size L.length _ left cnt rfl HR.out ?done ?more)
    case ik => intro key kl hk; obtain ⟨x, rfl, _⟩ := Maps.keyOf_int_inv Try.underlying3 hk; exact ⟨x, rfl⟩
    case iv => intro v y hv; obtain ⟨s, rfl, _⟩ := seatR_inv hv; exact ⟨s, rfl⟩
    case done =>
      intro h0 hl
      have HE := Lib.hid (curL_end (L := L) (f := f) hl)
      have HT := Lib.hid (TabM.of HR.out.owns)
      clear h0 hl
      go_wp2_with fail
      go_end0
      rw [← HE.out]
      exact ⟨rfl, HT.out, HU.out⟩
    case more =>
      intro x s kl y yp w2 cnt2 hk hl hy hat hrg hlt hg hsz hen
      obtain ⟨x', ex, rfl, -⟩ := Maps.keyOf_int_inv Try.underlying3 hk
      cases ex
      obtain rfl : y = seatD s := (Prod.mk.inj (Option.some.inj ((seatR_mk s).symm.trans hy))).1.symm
      have hfs : findS (curL L f left) x = some s := by
        rcases hf : findS (curL L f left) x with _ | t
        · have h1 := hat (seatD ⟨s.session + 1, 0, 0, zeroR⟩)
          rw [atKey_encL, hf] at h1
          have h2 := congrArg SeatS.session (seatD_inj h1)
          simp only [Option.getD_none] at h2
          omega
        · have h1 := hat (seatD zeroS)
          rw [atKey_encL, hf] at h1
          rw [show t = s from seatD_inj h1]
      have hsx : s.session = x := by have := List.find?_some hfs; simpa using this
      have hsL : s ∈ L := (List.mem_filter.1 (List.mem_of_find?_eq_some hfs)).1
      have HSX := Lib.hid hsx
      have HSL := Lib.hid hsL
      have HR2 := Lib.hid hrg
      have HK := Lib.hid hk
      have HCL := Lib.hid (show wr.rangeLeft b w.heap.size = cnt ∧ cnt2 < cnt from ⟨HR.out.left_eq, hlt⟩)
      have HU2 := Lib.hid (HU.out.grown hg (fun k hk => .inr (by injection hk with hk; omega)))
      have HC2 := Lib.hid (blk_upd HC.out HU2.out hcb)
      clear hk hl hy hat hrg hlt hg hsz hfs hsx hsL HR HU
      simp only [seatC] at hen ⊢
      go_upto_region 3 with fail
      obtain ⟨w3, hw3⟩ : ∃ w3, w3 = w2.alloc (.cells (seatC s) 47) := ⟨_, rfl⟩
      obtain ⟨g, hg⟩ : ∃ g, g = w2.heap.size := ⟨_, rfl⟩
      have hx3 : Ext w2 w3 := by rw [hw3]; exact (Ext.refl _).alloc _
      have HB3 := Lib.hid (show w3.heap[g]? = some (.cells (seatC s) 47 (0, 0)) by rw [hw3]; exact heap_new w2 g hg.symm _)
      have HX3 := Lib.hid hx3
      unfold seatC at hw3
      rw [← hw3, ← hg]
      clear hw3 hg hx3 hen
      have z0 : w3.cell? ⟨g, 0, none⟩ = some (.int .i64 s.session) := cell_blk HB3.out 0
      have z1 : w3.cell? ⟨g, 1, none⟩ = some (.int .i64 s.seq) := cell_blk HB3.out 1
      have z2 : w3.cell? ⟨g, 2, none⟩ = some (.int .i64 s.at_) := cell_blk HB3.out 2
      obtain ⟨z3, z4, z5, z6, z7, z8, z9, z10⟩ : w3.cell? ⟨g, 3, none⟩ = some (.int .i64 s.r.err) ∧ w3.cell? ⟨g, 4, none⟩ = some (.int .i64 s.r.session) ∧ w3.cell? ⟨g, 5, none⟩ = some (.int .i64 s.r.gone) ∧ w3.cell? ⟨g, 6, none⟩ = some (.int .i64 s.r.added) ∧ w3.cell? ⟨g, 7, none⟩ = some (.int .i64 s.r.same) ∧ w3.cell? ⟨g, 8, none⟩ = some (.int .i64 s.r.other) ∧ w3.cell? ⟨g, 9, none⟩ = some (.int .i64 s.r.cycle) ∧ w3.cell? ⟨g, 10, none⟩ = some (.int .i64 s.r.full) :=
        ⟨cell_blk HB3.out 3, cell_blk HB3.out 4, cell_blk HB3.out 5, cell_blk HB3.out 6, cell_blk HB3.out 7, cell_blk HB3.out 8, cell_blk HB3.out 9, cell_blk HB3.out 10⟩
      go_wp2_with fail
      refine (Exp1_calls w3 x f s c (blk_ext HC2.out HX3.out)).mono ?_
      rintro e w4 ⟨rfl, hx⟩
      have HX4 := Lib.hid (HX3.out.trans hx)
      have HR4 := Lib.hid (HR2.out.kept (row := none) ⟨HX4.out.os, HX4.out.tape, HX4.out.output, HX4.out.size, fun k hk _ => HX4.out.block k hk⟩ (by simp) (by simp))
      have HU4 := Lib.hid (HU2.out.trans (HX4.out.upd _))
      clear hx HR2 HX3 HB3 z0 z1 z2 z3 z4 z5 z6 z7 z8 z9 z10
      by_cases hf : s.at_ < f
      · have HGO := Lib.hid (curL_go (left := left) hr HSL.out hf)
        rw [decide_eq_true hf]
        go_wp2_with (at_delete; refine wpList_delete_ranges _ rfl (.tmp 17) (.tmp 18) 52 3 rfl 47 keyedI Try.underlying52 seatR b w.heap.size L.length _ _ cnt2 rfl HR4.out _ _ rfl HK.out ?_)
        intro w5 cnt5 hrg5 hle5 hmt
        rw [del_encL, ← HSX.out, HGO.out] at hrg5
        have HR5 := Lib.hid hrg5
        have HU5 := Lib.hid (HU4.out.grown hmt.grown (fun k hk => .inl (by injection hk with hk; exact hk.symm)))
        have HM5 := Lib.hid (show w5.rangeLeft b w.heap.size < wr.rangeLeft b w.heap.size by rw [hrg5.left_eq, HCL.out.1]; have := HCL.out.2; omega)
        clear hrg5 hle5 hmt
        go_wp2_with fail
        go_roundw
        case rel => exact ⟨_, _, HR5, HU5⟩
        case measure => exact HM5.out
      · have HST := Lib.hid (curL_stay (left := left) hr HSL.out hf)
        rw [decide_eq_false hf]
        have hrg5 := HR4.out
        rw [HST.out, HSX.out] at hrg5
        have HR5 := Lib.hid hrg5
        have HM5 := Lib.hid (show w4.rangeLeft b w.heap.size < wr.rangeLeft b w.heap.size by rw [hrg5.left_eq, HCL.out.1]; exact HCL.out.2)
        clear hrg5
        go_wp2_with fail
        go_roundw
        case rel => exact ⟨_, _, HR5, HU4⟩
        case measure => exact HM5.out
end Go.Proofs.Ytkedmpppfejofaa
set_option linter.unusedVariables false
set_option linter.unusedSimpArgs false
namespace Go.Proofs.Ytkedmpppfejofaa
open Go.RowKit

def stayL (L : List SeatS) (f : Int) : List SeatS := L.filter fun s => decide (f ≤ s.at_)
set_option maxRecDepth 100000 in
set_option maxHeartbeats 2000000 in
theorem Expire_calls (w : World) (p b : Nat) (L : List SeatS) (f : Int) (hr : Rise L) (hl : L.length ≤ 1000) (h : TabS w p b L) :
    Calls Try.prog 19 #[.pointer (some ⟨p, 0, none⟩), .int .i64 f] w fun e w' => e = .returned (.int .i64 ((L.length : Int) - ((stayL L f).length : Int))) ∧ TabS w' p b (stayL L f) ∧ Upd (fun k => k = b) w w' := by
  have HT := Lib.hid h
  have HLT := Lib.hid h.2.1.lt
  clear h
  go_enter Try.func19, Try.ntmps19
  go_upto_region 1 with fail
  obtain ⟨w1, hw1⟩ : ∃ w1, w1 = w.alloc (.cells #[.int .i64 f] 3) := ⟨_, rfl⟩
  obtain ⟨c, hc⟩ : ∃ c, c = w.heap.size := ⟨_, rfl⟩
  have HX1 := Lib.hid (show Ext w w1 by rw [hw1]; exact (Ext.refl w).alloc _)
  have HC1 := Lib.hid (show w1.heap[c]? = some (.cells #[.int .i64 f] 3 (0, 0)) by rw [hw1]; exact heap_new w c hc.symm _)
  have HCB := Lib.hid (show ¬ c = b by have := HLT.out; omega)
  rw [← hw1, ← hc]
  clear hw1 hc
  have HT1 := Lib.hid (HT.out.ext HX1.out)
  go_wp2_with fail
  refine (made_calls w1 p b L HT1.out).mono ?_
  rintro e w' ⟨rfl, rfl⟩
  have hc0 : w1.cell? ⟨p, 0, none⟩ = some (.map (some b)) := cell_blk HT1.out.1 0
  have hsz := fun ty => HT1.out.2.1.size ty
  go_wp2_with fail
  refine (DelFunc_calls w1 b c L f hr HT1.out.2.1 HC1.out HCB.out).mono ?_
  rintro e w2 ⟨rfl, hm, hu⟩
  have HT2 := Lib.hid (show TabS w2 p b (stayL L f) from HT1.out.upd hm hu)
  have HU2 := Lib.hid ((HX1.out.upd _).trans hu)
  clear hm hu hc0 hsz
  have hc0 : w2.cell? ⟨p, 0, none⟩ = some (.map (some b)) := cell_blk HT2.out.1 0
  have hsz := fun ty => HT2.out.2.1.size ty
  have hle : (stayL L f).length ≤ L.length := List.length_filter_le _ _
  have hw : wrap64 ((L.length : Int) - ((stayL L f).length : Int)) = (L.length : Int) - ((stayL L f).length : Int) := IntWalk.wrap64_in _ (by omega)
  obtain ⟨k, hk⟩ : ∃ k, k = (stayL L f).length := ⟨_, rfl⟩
  rw [← hk] at hsz hle hw
  have HKK := Lib.hid hk
  clear hk
  go_wp2_with fail
  go_ret
  rw [← HKK.out]
  exact ⟨rfl, HT2.out, HU2.out⟩
end Go.Proofs.Ytkedmpppfejofaa
set_option linter.unusedVariables false
set_option linter.unusedSimpArgs false
namespace Go.Proofs.Ytkedmpppfejofaa
open Go.RowKit

set_option maxRecDepth 1000000 in
set_option maxHeartbeats 4000000 in
theorem sk8 {K : Act → World → Prop} {Q : Exit → Act → World → Prop} {w : World} {c4 c5 c6 c7 c8 c10 c11 c12 c13 c14 c15 c16 c17 c18 c19 c20 c21 c22 c23 c24 c25 c26 c27 c28 c29 c30 c31 c32 c33 c34 c35 c36 c37 c38 c39 c40 c41 c42 c43 c44 c45 c46 c47 c48 c49 c50 : Value} (p b g : Nat) (n q at0 : Int) (r : ReplyS) (L : List SeatS) (hT : Hid (TabS w p b L)) (hg : Hid (w.heap[g]? = some (.cells (replyC r) 26 (0, 0)))) (hgb : ¬ g = b) (hn : I64 n) (hl : L.length ≤ 1000)
    (hK : ∀ (u41 u42 u43 u44 u45 u46 u47 u48 u49 u50 : Value) (wx : World), Hid (TabS wx p b (putS L ⟨n, q, at0, r⟩) ∧ Upd (fun k => k = b) w wx) → K ⟨#[.pointer (some ⟨p, 0, none⟩), .int .i64 n, .int .i64 q, .int .i64 at0, c4, c5, c6, c7, c8, .pointer (some ⟨g, 0, none⟩), c10, c11, c12, c13, c14, c15, c16, c17, c18, c19, c20, c21, c22, c23, c24, c25, c26, c27, c28, c29, c30, c31, c32, c33, c34, c35, c36, c37, c38, c39, c40, u41, u42, u43, u44, u45, u46, u47, u48, u49, u50], []⟩ wx) :
    Code.wp Try.prog ((Try.f15.body.bind (partR 8)).getD .skip) (Exit.then K Q) ⟨#[.pointer (some ⟨p, 0, none⟩), .int .i64 n, .int .i64 q, .int .i64 at0, c4, c5, c6, c7, c8, .pointer (some ⟨g, 0, none⟩), c10, c11, c12, c13, c14, c15, c16, c17, c18, c19, c20, c21, c22, c23, c24, c25, c26, c27, c28, c29, c30, c31, c32, c33, c34, c35, c36, c37, c38, c39, c40, c41, c42, c43, c44, c45, c46, c47, c48, c49, c50], []⟩ w := by
  conv => arg 2; whnf
  have hK2 := Lib.hid @hK
  obtain ⟨w0, hw0⟩ : ∃ W, W = w.drew := ⟨_, rfl⟩
  have e0 := Lib.hid (show Ext w w0 by rw [hw0]; exact (Ext.refl w).drew)
  have hT0 := Lib.hid (hT.out.ext e0.out)
  have hg0 := Lib.hid (blk_ext hg.out e0.out)
  have HS0 := Lib.hid (show ∀ W : World, W.heap[p]? = some (.cells #[.map (some b)] 54 (0, 0)) → W.heap[g]? = some (.cells (replyC r) 26 (0, 0)) → W.cell? ⟨p, 0, none⟩ = some (.map (some b)) ∧ W.cell? ⟨g, 0, none⟩ = some (.int .i64 r.err) ∧ W.cell? ⟨g, 1, none⟩ = some (.int .i64 r.session) ∧ W.cell? ⟨g, 2, none⟩ = some (.int .i64 r.gone) ∧ W.cell? ⟨g, 3, none⟩ = some (.int .i64 r.added) ∧ W.cell? ⟨g, 4, none⟩ = some (.int .i64 r.same) ∧ W.cell? ⟨g, 5, none⟩ = some (.int .i64 r.other) ∧ W.cell? ⟨g, 6, none⟩ = some (.int .i64 r.cycle) ∧ W.cell? ⟨g, 7, none⟩ = some (.int .i64 r.full) from fun W h1 h2 => ⟨cell_blk h1 0, cell_blk h2 0, cell_blk h2 1, cell_blk h2 2, cell_blk h2 3, cell_blk h2 4, cell_blk h2 5, cell_blk h2 6, cell_blk h2 7⟩)
  obtain ⟨wu, hup, hm, hu⟩ := hT0.out.2.1.put ⟨n, q, at0, r⟩ hn hl
  have HU := Lib.hid (show TabS wu p b (putS L ⟨n, q, at0, r⟩) ∧ Upd (fun k => k = b) w wu ∧ wu.heap[g]? = some (.cells (replyC r) 26 (0, 0)) from ⟨hT0.out.upd hm hu, (e0.out.upd _).trans hu, blk_upd hg0.out hu hgb⟩)
  simp only [seatC] at hup
  clear hK hm hu
  refine wpF_region (fun W => W.cell? ⟨p, 0, none⟩ = some (.map (some b)) ∧ W.cell? ⟨g, 0, none⟩ = some (.int .i64 r.err) ∧ W.cell? ⟨g, 1, none⟩ = some (.int .i64 r.session) ∧ W.cell? ⟨g, 2, none⟩ = some (.int .i64 r.gone) ∧ W.cell? ⟨g, 3, none⟩ = some (.int .i64 r.added) ∧ W.cell? ⟨g, 4, none⟩ = some (.int .i64 r.same) ∧ W.cell? ⟨g, 5, none⟩ = some (.int .i64 r.other) ∧ W.cell? ⟨g, 6, none⟩ = some (.int .i64 r.cycle) ∧ W.cell? ⟨g, 7, none⟩ = some (.int .i64 r.full)) (fun _ => True) 99 11 (by kernel_rfl) (by kernel_rfl) ?_
  rw [← hw0]
  clear hw0
  refine wpF_take0 (i := 0) (v := ?v1) rfl (by kernel_rfl) (by kernel_rfl) (by kernel_rfl) (fun _ _ _ h => h) (by kernel_rfl) (Or.inl ⟨by rfl, ?hy1⟩) (HS0.out _ hT0.out.1 hg0.out) (gone (by kernel_rfl)) ?rest1
  case hy1 => (intro W hSW; (try dsimp only at hSW); go_simp; (try with_reducible rfl))
  (try simp only [Act.put, List.setIfInBounds_toArray, List.set_cons_zero, List.set_cons_succ])
  refine wpF_take0 (i := 1) (v := ?v2) rfl (by kernel_rfl) (by kernel_rfl) (by kernel_rfl) (fun _ _ _ h => h) (by kernel_rfl) (Or.inl ⟨by rfl, ?hy2⟩) (HS0.out _ hT0.out.1 hg0.out) (gone (by kernel_rfl)) ?rest2
  case hy2 => (intro W hSW; (try dsimp only at hSW); go_simp; (try with_reducible rfl))
  (try simp only [Act.put, List.setIfInBounds_toArray, List.set_cons_zero, List.set_cons_succ])
  refine wpF_take0 (i := 2) (v := ?v3) rfl (by kernel_rfl) (by kernel_rfl) (by kernel_rfl) (fun _ _ _ h => h) (by kernel_rfl) (Or.inl ⟨by rfl, ?hy3⟩) (HS0.out _ hT0.out.1 hg0.out) (gone (by kernel_rfl)) ?rest3
  case hy3 => (intro W hSW; (try dsimp only at hSW); go_simp; (try with_reducible rfl))
  (try simp only [Act.put, List.setIfInBounds_toArray, List.set_cons_zero, List.set_cons_succ])
  refine wpF_take0 (i := 3) (v := ?v4) rfl (by kernel_rfl) (by kernel_rfl) (by kernel_rfl) (fun _ _ _ h => h) (by kernel_rfl) (Or.inl ⟨by rfl, ?hy4⟩) (HS0.out _ hT0.out.1 hg0.out) (gone (by kernel_rfl)) ?rest4
  case hy4 => (intro W hSW; (try dsimp only at hSW); go_simp; (try with_reducible rfl))
  (try simp only [Act.put, List.setIfInBounds_toArray, List.set_cons_zero, List.set_cons_succ])
  refine wpF_take0 (i := 4) (v := ?v5) rfl (by kernel_rfl) (by kernel_rfl) (by kernel_rfl) (fun _ _ _ h => h) (by kernel_rfl) (Or.inl ⟨by rfl, ?hy5⟩) (HS0.out _ hT0.out.1 hg0.out) (gone (by kernel_rfl)) ?rest5
  case hy5 => (intro W hSW; (try dsimp only at hSW); go_simp; (try with_reducible rfl))
  (try simp only [Act.put, List.setIfInBounds_toArray, List.set_cons_zero, List.set_cons_succ])
  refine wpF_take0 (i := 5) (v := ?v6) rfl (by kernel_rfl) (by kernel_rfl) (by kernel_rfl) (fun _ _ _ h => h) (by kernel_rfl) (Or.inl ⟨by rfl, ?hy6⟩) (HS0.out _ hT0.out.1 hg0.out) (gone (by kernel_rfl)) ?rest6
  case hy6 => (intro W hSW; (try dsimp only at hSW); go_simp; (try with_reducible rfl))
  (try simp only [Act.put, List.setIfInBounds_toArray, List.set_cons_zero, List.set_cons_succ])
  refine wpF_take0 (i := 6) (v := ?v7) rfl (by kernel_rfl) (by kernel_rfl) (by kernel_rfl) (fun _ _ _ h => h) (by kernel_rfl) (Or.inl ⟨by rfl, ?hy7⟩) (HS0.out _ hT0.out.1 hg0.out) (gone (by kernel_rfl)) ?rest7
  case hy7 => (intro W hSW; (try dsimp only at hSW); go_simp; (try with_reducible rfl))
  (try simp only [Act.put, List.setIfInBounds_toArray, List.set_cons_zero, List.set_cons_succ])
  refine wpF_take0 (i := 7) (v := ?v8) rfl (by kernel_rfl) (by kernel_rfl) (by kernel_rfl) (fun _ _ _ h => h) (by kernel_rfl) (Or.inl ⟨by rfl, ?hy8⟩) (HS0.out _ hT0.out.1 hg0.out) (gone (by kernel_rfl)) ?rest8
  case hy8 => (intro W hSW; (try dsimp only at hSW); go_simp; (try with_reducible rfl))
  (try simp only [Act.put, List.setIfInBounds_toArray, List.set_cons_zero, List.set_cons_succ])
  refine wpF_take0 (i := 8) (v := ?v9) rfl (by kernel_rfl) (by kernel_rfl) (by kernel_rfl) (fun _ _ _ h => h) (by kernel_rfl) (Or.inl ⟨by rfl, ?hy9⟩) (HS0.out _ hT0.out.1 hg0.out) (gone (by kernel_rfl)) ?rest9
  case hy9 => (intro W hSW; (try dsimp only at hSW); go_simp; (try with_reducible rfl))
  (try simp only [Act.put, List.setIfInBounds_toArray, List.set_cons_zero, List.set_cons_succ])
  refine wpF_take0 (i := 9) (v := ?v10) rfl (by kernel_rfl) (by kernel_rfl) (by kernel_rfl) (fun _ _ _ h => h) (by kernel_rfl) (Or.inl ⟨by rfl, ?hy10⟩) (HS0.out _ hT0.out.1 hg0.out) (gone (by kernel_rfl)) ?rest10
  case hy10 => (intro W hSW; (try dsimp only at hSW); go_simp; (try with_reducible rfl))
  (try simp only [Act.put, List.setIfInBounds_toArray, List.set_cons_zero, List.set_cons_succ])
  refine wpF_step (i := 10) (by kernel_rfl) rfl (fun K hK => ?_)
  go_simp
  refine hK.out _ _ (HS0.out _ HU.out.1.1 HU.out.2.2) (gone (by kernel_rfl)) ?_
  clear hK K
  (try simp only [Act.put, List.setIfInBounds_toArray, List.set_cons_zero, List.set_cons_succ])
  refine wpF_done (by kernel_rfl) ?_ _
  refine NoPanic.normal ?_
  exact hK2.out _ _ _ _ _ _ _ _ _ _ _  (Lib.hid ⟨HU.out.1, HU.out.2.1⟩)
end Go.Proofs.Ytkedmpppfejofaa
set_option linter.unusedVariables false
set_option linter.unusedSimpArgs false
namespace Go.Proofs.Ytkedmpppfejofaa
open Go.RowKit

def keepS (L : List SeatS) (n q at0 : Int) (r : ReplyS) : List SeatS × Int :=
  if (askS L n q).2.2 ≠ 0 then (L, (askS L n q).2.2)
  else if (askS L n q).2.1 = true then (L, 81)
  else if idxF at0 = false ∨ chkR8 r = false ∨ 1099511627776 < q then (L, 1) else (putS L ⟨n, q, at0, r⟩, 0)
set_option maxRecDepth 100000 in
set_option maxHeartbeats 4000000 in
theorem Keep_calls (w : World) (p b : Nat) (L : List SeatS) (n q at0 : Int) (r : ReplyS) (hn : I64 n) (hq : I64 q) (hl : L.length ≤ 1000) (h : TabS w p b L) :
    Calls Try.prog 15 #[.pointer (some ⟨p, 0, none⟩), .int .i64 n, .int .i64 q, .int .i64 at0, .agg (replyC r)] w fun e w' => e = .returned (.int .i64 (keepS L n q at0 r).2) ∧ TabS w' p b (keepS L n q at0 r).1 ∧ Upd (fun k => k = b) w w' := by
  have HT := Lib.hid h
  have HN := Lib.hid hn
  have HQ := Lib.hid hq
  have HLT := Lib.hid h.2.1.lt
  clear h hn hq
  dsimp only [replyC]
  go_enter Try.func15, Try.ntmps15
  go_upto_region 1 with fail
  obtain ⟨w1, hw1⟩ : ∃ w1, w1 = w.alloc (.cells (replyC r) 26) := ⟨_, rfl⟩
  obtain ⟨g, hg⟩ : ∃ g, g = w.heap.size := ⟨_, rfl⟩
  have HX1 := Lib.hid (show Ext w w1 by rw [hw1]; exact (Ext.refl w).alloc _)
  have HB1 := Lib.hid (show w1.heap[g]? = some (.cells (replyC r) 26 (0, 0)) by rw [hw1]; exact heap_new w g hg.symm _)
  have HGB := Lib.hid (show ¬ g = b by have := HLT.out; omega)
  unfold replyC at hw1
  rw [← hw1, ← hg]
  clear hw1 hg
  go_wp2_with fail
  refine (Ask_calls w1 p b L n q HN.out HQ.out (HT.out.ext HX1.out)).mono ?_
  have HK := Lib.hid (show keepS L n q at0 r = if (askS L n q).2.2 ≠ 0 then (L, (askS L n q).2.2)
    else if (askS L n q).2.1 = true then (L, 81)
    else if idxF at0 = false ∨ chkR8 r = false ∨ 1099511627776 < q then (L, 1) else (putS L ⟨n, q, at0, r⟩, 0) from rfl)
  generalize askS L n q = a at HK ⊢
  obtain ⟨a1, a2, a3⟩ := a
  dsimp only at HK ⊢
  rintro e w2 ⟨rfl, hx⟩
  have HX2 := Lib.hid (HX1.out.trans hx)
  have HB2 := Lib.hid (blk_ext HB1.out hx)
  clear hx HB1 HX1
  dsimp only [replyC]
  go_upto_region 2 with fail
  obtain ⟨w3, hw3⟩ : ∃ w3, w3 = w2.alloc (.cells (replyC a1) 26) := ⟨_, rfl⟩
  have hx3 : Ext w2 w3 := by rw [hw3]; exact (Ext.refl _).alloc _
  have HX3 := Lib.hid (HX2.out.trans hx3)
  have HB3 := Lib.hid (blk_ext HB2.out hx3)
  have HT3 := Lib.hid (HT.out.ext HX3.out)
  unfold replyC at hw3
  rw [← hw3]
  clear hw3 hx3 HB2 HX2
  by_cases h0 : a3 = 0
  · subst h0
    cases a2
    · obtain ⟨x0, x1, x2, x3, x4, x5, x6, x7⟩ := rep_cells HB3.out
      go_wp2_with fail
      refine (index_calls w3 at0).mono ?_
      rintro e w' ⟨rfl, rfl⟩
      cases hi : idxF at0
      · have HF := Lib.hid (show keepS L n q at0 r = (L, 1) by rw [HK.out, if_neg (by simp), if_neg (by simp), if_pos (.inl hi)])
        go_wp2_with fail
        go_ret
        rw [HF.out]
        exact ⟨rfl, HT3.out, HX3.out.upd _⟩
      · go_wp2_with fail
        refine (SCheck_calls w3 r).mono ?_
        rintro e w4 ⟨rfl, hx⟩
        have HX4 := Lib.hid (HX3.out.trans hx)
        have HB4 := Lib.hid (blk_ext HB3.out hx)
        have HT4 := Lib.hid (HT.out.ext HX4.out)
        clear hx x0 x1 x2 x3 x4 x5 x6 x7
        unfold chk8E
        cases hc : chkR8 r
        · have HF := Lib.hid (show keepS L n q at0 r = (L, 1) by rw [HK.out, if_neg (by simp), if_neg (by simp), if_pos (.inr (.inl hc))])
          simp only [Bool.false_eq_true, if_false]
          go_wp2_with fail
          go_ret
          rw [HF.out]
          exact ⟨rfl, HT4.out, HX4.out.upd _⟩
        · simp only [if_true]
          by_cases hqf : 1099511627776 < q
          · have HF := Lib.hid (show keepS L n q at0 r = (L, 1) by rw [HK.out, if_neg (by simp), if_neg (by simp), if_pos (.inr (.inr hqf))])
            go_wp2_with fail
            go_ret
            rw [HF.out]
            exact ⟨rfl, HT4.out, HX4.out.upd _⟩
          · have HF := Lib.hid (show keepS L n q at0 r = (putS L ⟨n, q, at0, r⟩, 0) by rw [HK.out, if_neg (by simp), if_neg (by simp), if_neg (by rw [hi, hc]; simp; omega)])
            go_upto_region 8 with fail
            refine sk8 p b g n q at0 r L HT4 HB4 HGB.out HN.out hl ?_
            intros
            rename_i wx hrel
            go_wp2_with fail
            go_ret
            rw [HF.out]
            exact ⟨rfl, hrel.out.1, (HX4.out.upd _).trans hrel.out.2⟩
    · have HF := Lib.hid (show keepS L n q at0 r = (L, 81) by rw [HK.out, if_neg (by simp), if_pos rfl])
      go_wp2_with fail
      go_ret
      rw [HF.out]
      exact ⟨rfl, HT3.out, HX3.out.upd _⟩
  · have HF := Lib.hid (show keepS L n q at0 r = (L, a3) by rw [HK.out, if_pos h0])
    have hb : (a3 != 0) = true := bne_iff_ne.2 h0
    go_wp2_with fail
    go_ret
    rw [HF.out]
    exact ⟨rfl, HT3.out, HX3.out.upd _⟩
end Go.Proofs.Ytkedmpppfejofaa
set_option linter.unusedVariables false
set_option linter.unusedSimpArgs false
namespace Go.Proofs.Ytkedmpppfejofaa
open Go.RowKit

def gone2 : ReplyS := ⟨0, 0, 2, 0, 0, 0, 0, 0⟩
def awL0 : List SeatS := [⟨5, 0, 5, zeroR⟩]
def awL1 : List SeatS := [⟨5, 1, 7, gone2⟩]
theorem aw_open : openS [] 5 = (awL0, 0) := by decide
theorem aw_keep : keepS awL0 5 1 7 gone2 = (awL1, 0) := by decide
theorem aw_ask1 : askS awL1 5 1 = (gone2, true, 0) := by decide
theorem aw_ask3 : askS awL1 5 3 = (zeroR, false, 82) := by decide
theorem aw_stay : stayL awL1 8 = [] := by decide
theorem i64s {n : Int} (h : 0 ≤ n ∧ n ≤ 1000000) : I64 n := ⟨by omega, by omega⟩
set_option maxRecDepth 100000 in
set_option maxHeartbeats 4000000 in
theorem awake_calls (w : World) : Calls Try.prog 13 #[] w fun e w' => e = .returned (.bool true) ∧ Ext w w' := by
  go_enter Try.func13, Try.ntmps13
  go_wp2_with fail
  refine (SNew_calls w).mono ?_
  rintro e w1 ⟨p, b, hp, hb, rfl, ht, hx⟩
  have HT := Lib.hid ht
  have HX := Lib.hid hx
  have HP := Lib.hid hp
  have HB := Lib.hid hb
  clear ht hx hp hb
  go_wp2_with fail
  refine (Open_calls w1 p b [] 5 (i64s (by omega)) (by decide) HT.out).mono ?_
  rw [aw_open]
  rintro e w2 ⟨rfl, ht, hu⟩
  have HT2 := Lib.hid ht
  have HX2 := Lib.hid (hu.ext HX.out (fun k hk => by rw [hk]; exact HB.out))
  clear ht hu HT HX
  dsimp only
  go_wp2_with fail
  refine (Keep_calls w2 p b awL0 5 1 7 gone2 (i64s (by omega)) (i64s (by omega)) (by decide) HT2.out).mono ?_
  rw [aw_keep]
  rintro e w3 ⟨rfl, ht, hu⟩
  have HT3 := Lib.hid ht
  have HX3 := Lib.hid (hu.ext HX2.out (fun k hk => by rw [hk]; exact HB.out))
  clear ht hu HT2 HX2
  dsimp only
  go_wp2_with fail
  refine (Ask_calls w3 p b awL1 5 1 (i64s (by omega)) (i64s (by omega)) HT3.out).mono ?_
  rw [aw_ask1]
  rintro e w4 ⟨rfl, hx⟩
  have HT4 := Lib.hid (HT3.out.ext hx)
  have HX4 := Lib.hid (HX3.out.trans hx)
  clear hx HT3 HX3
  dsimp only [replyC, gone2]
  go_wp2_with fail
  refine (Ask_calls _ p b awL1 5 3 (i64s (by omega)) (i64s (by omega)) (HT4.out.ext ((Ext.refl _).alloc _))).mono ?_
  rw [aw_ask3]
  rintro e w5 ⟨rfl, hx⟩
  have HT5 := Lib.hid (HT4.out.ext (((Ext.refl _).alloc _).trans hx))
  have HX5 := Lib.hid (HX4.out.trans (((Ext.refl _).alloc _).trans hx))
  have HB5 := Lib.hid (blk_ext (heap_new w4 _ rfl _) hx)
  clear hx HT4 HX4
  dsimp only [replyC, zeroR]
  go_upto_region 6 with fail
  obtain ⟨w6, hw6⟩ : ∃ w6, w6 = w5.alloc (.cells (replyC zeroR) 26) := ⟨_, rfl⟩
  have hx6 : Ext w5 w6 := by rw [hw6]; exact (Ext.refl _).alloc _
  have HT6 := Lib.hid (HT5.out.ext hx6)
  have HX6 := Lib.hid (HX5.out.trans hx6)
  obtain ⟨x0, x1, x2, x3, x4, x5, x6, x7⟩ := rep_cells (r := gone2) (blk_ext HB5.out hx6)
  simp only [gone2] at x0 x1 x2 x3 x4 x5 x6 x7
  unfold replyC zeroR at hw6
  rw [← hw6]
  clear hw6 hx6 HT5 HX5 HB5
  have he := fun W => reply_eql W gone2 gone2
  rw [show beqR gone2 gone2 = true by decide] at he
  simp only [replyC, gone2] at he
  go_wp2_with fail
  refine (Expire_calls w6 p b awL1 8 (by simp [Rise, awL1]) (by decide) HT6.out).mono ?_
  rw [aw_stay]
  rintro e w7 ⟨rfl, ht, hu⟩
  have HT7 := Lib.hid ht
  have HX7 := Lib.hid (hu.ext HX6.out (fun k hk => by rw [hk]; exact HB.out))
  clear ht hu HT6 HX6 x0 x1 x2 x3 x4 x5 x6 x7 he
  have hone : Value.int .i64 ((awL1.length : Int) - (([] : List SeatS).length : Int)) = .int .i64 1 := rfl
  rw [hone]
  clear hone
  go_wp2_with fail
  refine (Seats_calls w7 p b [] (by simp [Rise]) (by simp) (by decide) HT7.out).mono ?_
  rintro e w8 ⟨v, rfl, ho, hx⟩
  have HX8 := Lib.hid (HX7.out.trans hx)
  obtain ⟨A, c, rfl, -⟩ := ho.rs
  clear ho hx HX7 HT7
  dsimp only [List.length_nil]
  go_wp2_with fail
  go_ret
  exact ⟨rfl, HX8.out⟩
end Go.Proofs.Ytkedmpppfejofaa
set_option linter.unusedVariables false
set_option linter.unusedSimpArgs false
namespace Go.Proofs.Ytkedmpppfejofaa
open Go.RowKit

set_option maxRecDepth 100000 in
set_option maxHeartbeats 2000000 in
theorem SessionChecks_go (w : World) (r : ReplyS) (hI : ReplyI r) : Calls Try.prog 3 #[.agg (replyC r)] w fun e w' => e = .returned (.bool true) ∧ Ext w w' := by
  have HI := Lib.hid hI
  clear hI
  dsimp only [replyC]
  go_enter Try.func3, Try.ntmps3
  go_upto_region 1 with fail
  obtain ⟨w1, hw1⟩ : ∃ w1, w1 = w.alloc (.cells (replyC r) 26) := ⟨_, rfl⟩
  obtain ⟨g, hg⟩ : ∃ g, g = w.heap.size := ⟨_, rfl⟩
  obtain ⟨w2, hw2⟩ : ∃ w2, w2 = w1.drew := ⟨_, rfl⟩
  have HX2 := Lib.hid (show Ext w w2 by rw [hw2, hw1]; exact ((Ext.refl w).alloc _).drew)
  have HB2 := Lib.hid (show w2.heap[g]? = some (.cells (replyC r) 26 (0, 0)) by rw [hw2, hw1]; exact heap_new w g hg.symm _)
  have HS0 := Lib.hid (show ∀ W : World, W.heap[g]? = some (.cells (replyC r) 26 (0, 0)) → W.cell? ⟨g, 0, none⟩ = some (.int .i64 r.err) ∧ W.cell? ⟨g, 1, none⟩ = some (.int .i64 r.session) ∧ W.cell? ⟨g, 2, none⟩ = some (.int .i64 r.gone) ∧ W.cell? ⟨g, 3, none⟩ = some (.int .i64 r.added) ∧ W.cell? ⟨g, 4, none⟩ = some (.int .i64 r.same) ∧ W.cell? ⟨g, 5, none⟩ = some (.int .i64 r.other) ∧ W.cell? ⟨g, 6, none⟩ = some (.int .i64 r.cycle) ∧ W.cell? ⟨g, 7, none⟩ = some (.int .i64 r.full) from fun W h2 => ⟨cell_blk h2 0, cell_blk h2 1, cell_blk h2 2, cell_blk h2 3, cell_blk h2 4, cell_blk h2 5, cell_blk h2 6, cell_blk h2 7⟩)
  unfold replyC at hw1
  rw [← hw1, ← hg]
  clear hw1 hg
  refine wpF_region (fun W => W.cell? ⟨g, 0, none⟩ = some (.int .i64 r.err) ∧ W.cell? ⟨g, 1, none⟩ = some (.int .i64 r.session) ∧ W.cell? ⟨g, 2, none⟩ = some (.int .i64 r.gone) ∧ W.cell? ⟨g, 3, none⟩ = some (.int .i64 r.added) ∧ W.cell? ⟨g, 4, none⟩ = some (.int .i64 r.same) ∧ W.cell? ⟨g, 5, none⟩ = some (.int .i64 r.other) ∧ W.cell? ⟨g, 6, none⟩ = some (.int .i64 r.cycle) ∧ W.cell? ⟨g, 7, none⟩ = some (.int .i64 r.full)) (fun _ => True) 99 9 (by kernel_rfl) (by kernel_rfl) ?_
  rw [← hw2]
  clear hw2
  refine wpF_take0 (i := 0) (v := ?v1) rfl (by kernel_rfl) (by kernel_rfl) (by kernel_rfl) (fun _ _ _ h => h) (by kernel_rfl) (Or.inl ⟨by rfl, ?hy1⟩) (HS0.out _ HB2.out) (gone (by kernel_rfl)) ?rest1
  case hy1 => (intro W hSW; (try dsimp only at hSW); go_simp; (try with_reducible rfl))
  (try simp only [Act.put, List.setIfInBounds_toArray, List.set_cons_zero, List.set_cons_succ])
  refine wpF_take0 (i := 2) (v := ?v2) rfl (by kernel_rfl) (by kernel_rfl) (by kernel_rfl) (fun _ _ _ h => h) (by kernel_rfl) (Or.inl ⟨by rfl, ?hy2⟩) (HS0.out _ HB2.out) (gone (by kernel_rfl)) ?rest2
  case hy2 => (intro W hSW; (try dsimp only at hSW); go_simp; (try with_reducible rfl))
  (try simp only [Act.put, List.setIfInBounds_toArray, List.set_cons_zero, List.set_cons_succ])
  refine wpF_step (i := 1) (by kernel_rfl) rfl (fun K hK => ?_)
  go_simp
  refine (SCheck_calls w2 r).mono ?_
  rintro e w3 ⟨rfl, hx⟩
  have HB3 := Lib.hid (blk_ext HB2.out hx)
  have HX3 := Lib.hid (HX2.out.trans hx)
  clear hx HB2 HX2
  refine hK.out _ _ (HS0.out _ HB3.out) (gone (by kernel_rfl)) ?_
  clear hK K
  (try simp only [Act.put, List.setIfInBounds_toArray, List.set_cons_zero, List.set_cons_succ])
  refine wpF_step (i := 3) (by kernel_rfl) rfl (fun K hK => ?_)
  go_simp
  refine (RCheck_calls w3 r HI.out).mono ?_
  rintro e w4 ⟨rfl, hx⟩
  have HB4 := Lib.hid (blk_ext HB3.out hx)
  have HX4 := Lib.hid (HX3.out.trans hx)
  clear hx HB3 HX3
  refine hK.out _ _ (HS0.out _ HB4.out) (gone (by kernel_rfl)) ?_
  clear hK K
  (try simp only [Act.put, List.setIfInBounds_toArray, List.set_cons_zero, List.set_cons_succ])
  refine wpF_step (i := 4) (by kernel_rfl) rfl (fun K hK => ?_)
  go_simp
  refine hK.out _ _ (HS0.out _ HB4.out) (gone (by kernel_rfl)) ?_
  clear hK K
  (try simp only [Act.put, List.setIfInBounds_toArray, List.set_cons_zero, List.set_cons_succ])
  refine wpF_step (i := 5) (by kernel_rfl) rfl (fun K hK => ?_)
  go_simp
  refine hK.out _ _ (HS0.out _ HB4.out) (gone (by kernel_rfl)) ?_
  clear hK K
  (try simp only [Act.put, List.setIfInBounds_toArray, List.set_cons_zero, List.set_cons_succ])
  refine wpF_step (i := 6) (by kernel_rfl) rfl (fun K hK => ?_)
  go_simp
  refine (awake_calls w4).mono ?_
  rintro e w5 ⟨rfl, hx⟩
  have HB5 := Lib.hid (blk_ext HB4.out hx)
  have HX5 := Lib.hid (HX4.out.trans hx)
  clear hx HB4 HX4
  refine hK.out _ _ (HS0.out _ HB5.out) (gone (by kernel_rfl)) ?_
  clear hK K
  (try simp only [Act.put, List.setIfInBounds_toArray, List.set_cons_zero, List.set_cons_succ])
  refine wpF_step (i := 7) (by kernel_rfl) rfl (fun K hK => ?_)
  go_simp
  refine hK.out _ _ (HS0.out _ HB5.out) (gone (by kernel_rfl)) ?_
  clear hK K
  (try simp only [Act.put, List.setIfInBounds_toArray, List.set_cons_zero, List.set_cons_succ])
  refine wpF_step (i := 8) (by kernel_rfl) rfl (fun K hK => ?_)
  go_simp
  refine hK.out _ _ (HS0.out _ HB5.out) (gone (by kernel_rfl)) ?_
  clear hK K
  (try simp only [Act.put, List.setIfInBounds_toArray, List.set_cons_zero, List.set_cons_succ])
  refine wpF_done (by kernel_rfl) ?_ _
  refine NoPanic.normal ?_
  go_wp2_with fail
  go_ret
  exact ⟨rfl, HX5.out⟩
theorem SessionChecks_walk (w : World) (cs : Array Value) (r : ReplyS) (hm : kReply.K w (· < w.heap.size) r cs.toList) : Calls Try.prog 3 #[.agg cs] w fun e w' => e = .returned (.bool true) ∧ Ext w w' := by
  obtain ⟨e, hI⟩ := kReply_iff.1 hm
  rw [Array.toList_inj.1 e]
  exact SessionChecks_go w r hI
end Go.Proofs.Ytkedmpppfejofaa
