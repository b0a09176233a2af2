/-
  Texts of this claim, put together: SesRef, SesRAsk, SesROpen, SesRExp.
-/
import Derived.Test.YtkedmpppfejofaaZ5
import Derived.Laws.Rows
import Derived.Test.YtkedmpppfejofaaZ7
set_option linter.unusedVariables false
set_option linter.unusedSimpArgs false
namespace Go.Proofs.Ytkedmpppfejofaa
open Go.RowKit

/-- The reference's table at block p: its list lies in no block of E. -/
def RTab (w : World) (p : Nat) (E : Nat → Prop) (L : List SeatS) : Prop :=
  ∃ v, w.heap[p]? = some (.cells #[v] 61 (0, 0)) ∧ Rs kSeat w (fun k => ¬ E k) v L ∧ E p
section
variable {w w' : World} {p : Nat} {E E' : Nat → Prop} {L L' : List SeatS}
theorem RTab.ext (h : RTab w p E L) (he : Ext w w') : RTab w' p E L := by
  obtain ⟨v, h1, h2, h3⟩ := h
  exact ⟨v, blk_ext h1 he, h2.ext he, h3⟩
theorem RTab.upd {S : Nat → Prop} (h : RTab w p E L) (hu : Upd S w w') (hp : ¬ S p) (hS : ∀ k, S k → E k) : RTab w' p E L := by
  obtain ⟨v, h1, h2, h3⟩ := h
  exact ⟨v, blk_upd h1 hu hp, h2.upd hu (fun k hk hs => hk (hS k hs)), h3⟩
theorem RTab.lt (h : RTab w p E L) : p < w.heap.size := by
  obtain ⟨v, h1, _⟩ := h
  exact blk_lt h1
theorem RTab.more (h : RTab w p E L) (h1 : ∀ k, E k → E' k) (h2 : ∀ k, E' k → E k ∨ w.heap.size ≤ k) : RTab w p E' L := by
  obtain ⟨v, h3, h4, h5⟩ := h
  exact ⟨v, h3, h4.bound.mono fun k hk he => (h2 k he).elim hk.1 fun h => by have := hk.2; omega, h1 _ h5⟩
/-- A new list is stored. -/
theorem RTab.set {v : Value} (hp : w.heap[p]? = some (.cells #[v] 61 (0, 0))) {u : Value} {T : Nat → Prop} (hr : Rs kSeat w T u L') (hT : ∀ k, T k → ¬ E k) (hE : E p) : RTab (w.setCell ⟨p, 0, none⟩ u) p E L' ∧ Upd (fun k => k = p) w (w.setCell ⟨p, 0, none⟩ u) := by
  have hnp : ¬ T p := fun h => hT p h hE
  exact ⟨⟨u, by rw [heap_setCell_same w p 0 _ _ _ hp]; rfl, (hr.seti hnp u).mono hT, hE⟩, (Upd.refl (fun k => k = p) w).set (.inl rfl) u⟩
end
/-- Where a session stands. -/
def plc (L : List SeatS) (n : Int) : Int := idxI (L.map (·.session)) n
theorem plc_bd (L : List SeatS) (n : Int) : -1 ≤ plc L n ∧ plc L n < L.length := by
  have := idxI_bd (L.map (·.session)) n
  rwa [List.length_map] at this
theorem plc_find (L : List SeatS) (n : Int) : (plc L n = -1 ∧ findS L n = none) ∨ ∃ (k : Nat) (hk : k < L.length), plc L n = k ∧ findS L n = some L[k] ∧ L[k].session = n := by
  induction L with
  | nil => exact .inl ⟨rfl, rfl⟩
  | cons s l ih =>
    unfold plc at ih ⊢
    rw [List.map_cons]
    simp only [idxI]
    by_cases h : n = s.session
    · rw [if_pos h]
      refine .inr ⟨0, by simp, rfl, ?_, h.symm⟩
      unfold findS
      rw [List.find?_cons]
      simp [h]
    · rw [if_neg h]
      have hf : findS (s :: l) n = findS l n := by
        unfold findS
        rw [List.find?_cons]
        have : (decide (s.session = n)) = false := decide_eq_false (fun e => h e.symm)
        simp only [this]
      rw [hf]
      rcases ih with ⟨h1, h2⟩ | ⟨k, hk, h1, h2, h3⟩
      · exact .inl ⟨by rw [h1]; simp, h2⟩
      · refine .inr ⟨k + 1, by simpa using hk, ?_, by simpa using h2, by simpa using h3⟩
        rw [h1, if_neg (by omega)]
        omega
set_option maxRecDepth 100000 in
set_option maxHeartbeats 1000000 in
theorem place_calls (w : World) (p : Nat) (E : Nat → Prop) (L : List SeatS) (n : Int) (h : RTab w p E L) :
    Calls Try.prog 42 #[.pointer (some ⟨p, 0, none⟩), .int .i64 n] w fun e w' => e = .returned (.int .i64 (plc L n)) ∧ w = w' := by
  obtain ⟨v, hb, hr, -⟩ := h
  obtain ⟨A, c, rfl, hl, hc, hz, hrow⟩ := hr
  have hcell : w.cell? ⟨p, 0, none⟩ = some (.slice A L.length c) := cell_blk hb 0
  have HR := Lib.hid hrow
  clear hrow hb
  have HLM := Lib.hid (show (L.map (·.session)).length = L.length by simp)
  go_enter Try.func42, Try.ntmps42
  go_wp2_with fail
  go_loop [11] (fun i => ∃ k : Nat, k ≤ L.length ∧ i = .int .i64 k ∧ Hid (idxFrom (L.map (·.session)) n k = plc L n)) (fun i => L.length - (intOf i).toNat)
  case atStart => exact ⟨0, Nat.zero_le _, rfl, Lib.hid (idxFrom_zero _ n)⟩
  case round =>
    obtain ⟨k, hk, rfl, HQ⟩ := hrel
    by_cases hlt : k < L.length
    · obtain ⟨ad, rfl, -, -, -, hx⟩ := HR.out.seat hlt
      obtain ⟨x0, -⟩ := seat_at hx
      have hlm : k < (L.map (·.session)).length := by rw [HLM.out]; exact hlt
      have hgm : (L.map (·.session))[k] = L[k].session := by simp
      clear hx
      by_cases he : n = L[k].session
      · have hb : (L[k].session == n) = true := beq_iff_eq.2 he.symm
        have HF := Lib.hid (show plc L n = (k : Int) by rw [← HQ.out, show n = (L.map (·.session))[k] by rw [hgm, he], idxFrom_hit _ k hlm])
        clear he hlm hgm
        go_wp2_with fail
        go_ret
        exact ⟨int_ret HF.out.symm, rfl⟩
      · have hb : (L[k].session == n) = false := beq_eq_false_iff_ne.2 (fun e => he e.symm)
        have HE := Lib.hid (idxFrom_next (L.map (·.session)) n k hlm (by rw [hgm]; exact he))
        clear he hlm hgm
        go_wp2_with fail
        go_round
        case rel => exact ⟨k + 1, by omega, by go_num, Lib.hid (HE.out ▸ HQ.out)⟩
        case measure => simp [intOf]; omega
    · obtain rfl : k = L.length := by omega
      have HF := Lib.hid (show plc L n = -1 by rw [← HQ.out, ← HLM.out, idxFrom_end])
      clear hlt
      go_wp2_with fail
      go_ret
      exact ⟨int_ret HF.out.symm, rfl⟩
end Go.Proofs.Ytkedmpppfejofaa
set_option linter.unusedVariables false
set_option linter.unusedSimpArgs false
namespace Go.Proofs.Ytkedmpppfejofaa
open Go.RowKit

set_option maxRecDepth 100000 in
set_option maxHeartbeats 4000000 in
theorem RAsk_calls (w : World) (p : Nat) (E : Nat → Prop) (L : List SeatS) (n q : Int) (hok : TabOk L) (hq : I64 q) (h : RTab w p E L) :
    Calls Try.prog 25 #[.pointer (some ⟨p, 0, none⟩), .int .i64 n, .int .i64 q] w fun e w' => e = .returned (.tuple #[.agg (replyC (askS L n q).1), .bool (askS L n q).2.1, .int .i64 (askS L n q).2.2]) ∧ Ext w w' := by
  have HT := Lib.hid h
  have HOK := Lib.hid hok
  clear h hok
  go_enter Try.func25, Try.ntmps25
  go_wp2_with fail
  obtain ⟨w1, hw1⟩ : ∃ w1, w1 = w.alloc (.cells (replyC zeroR) 26) := ⟨_, rfl⟩
  have HX1 := Lib.hid (show Ext w w1 by rw [hw1]; exact (Ext.refl w).alloc _)
  have HB1 := Lib.hid (show w1.heap[w.heap.size]? = some (.cells (replyC zeroR) 26 (0, 0)) by rw [hw1]; exact heap_new w _ rfl _)
  unfold replyC zeroR at hw1
  rw [← hw1]
  clear hw1
  refine (place_calls w1 p E L n (HT.out.ext HX1.out)).mono ?_
  rintro e w' ⟨rfl, rfl⟩
  rcases plc_find L n with ⟨hp, hf⟩ | ⟨k, hk, hp, hf, -⟩
  · have HF := Lib.hid (askS_none (q := q) hf)
    rw [hp]
    clear hf hp
    have HSM := Lib.hid (setRow_heap w1 w.heap.size _ (replyC zeroR) 26 (0, 0) HB1.out)
    have HSU := Lib.hid (setRow_upd w1 w.heap.size (replyC zeroR))
    go_wp2_with (refine wpList_store_row rfl 26 (.tmp 6) (.tmp 16) rfl w.heap.size (replyC zeroR) rfl rfl 26 _ HB1.out rep8 rfl (repC_one _) ?_)
    (try go_wp2_with fail)
    (try simp only [Exit.inBlock, Exit.then])
    refine bodyPost_ret (results_reply rfl _ _ _ _ _ _ rfl HSM.out) rfl ?_
    rw [HF.out]
    exact ⟨rfl, HSU.out.ext HX1.out (fun k hk => by have hk' : k = w.heap.size := hk; omega)⟩
  · have HAS := Lib.hid (askS_some (q := q) hf)
    obtain ⟨v, hb, hr, -⟩ := HT.out.ext HX1.out
    obtain ⟨A, c, rfl, hl, hc, hz, hrow⟩ := hr
    have hcell : w1.cell? ⟨p, 0, none⟩ = some (.slice A L.length c) := cell_blk hb 0
    obtain ⟨ad, rfl, -, -, -, hx⟩ := hrow.seat hk
    obtain ⟨x0, x1, x2, x3, x4, x5, x6, x7, x8, x9, x10⟩ := seat_at hx
    have hsq := (HOK.out.ok _ (List.getElem_mem hk)).seq
    rw [hp]
    clear hf hp hrow hb hx
    generalize L[k] = s at *
    go_upto_region 5 with fail
    obtain ⟨w2, hw2⟩ : ∃ w2, w2 = w1.alloc (.cells (seatC s) 47) := ⟨_, rfl⟩
    obtain ⟨g, hg⟩ : ∃ g, g = w1.heap.size := ⟨_, rfl⟩
    have hx2 : Ext w1 w2 := by rw [hw2]; exact (Ext.refl _).alloc _
    have HB21 := Lib.hid (blk_ext HB1.out hx2)
    have HBS := Lib.hid (show w2.heap[g]? = some (.cells (seatC s) 47 (0, 0)) by rw [hw2]; exact heap_new w1 g hg.symm _)
    have HX2 := Lib.hid (HX1.out.trans hx2)
    unfold seatC at hw2
    rw [← hw2, ← hg]
    clear hw2 hx2 hg hcell hl hc hz x0 x1 x2 x3 x4 x5 x6 x7 x8 x9 x10
    have y1 : w2.cell? ⟨g, 1, none⟩ = some (.int .i64 s.seq) := cell_blk HBS.out 1
    have y3 : w2.cell? ⟨g, 3, none⟩ = some (.int .i64 s.r.err) := cell_blk HBS.out 3
    have y4 : w2.cell? ⟨g, 4, none⟩ = some (.int .i64 s.r.session) := cell_blk HBS.out 4
    have y5 : w2.cell? ⟨g, 5, none⟩ = some (.int .i64 s.r.gone) := cell_blk HBS.out 5
    have y6 : w2.cell? ⟨g, 6, none⟩ = some (.int .i64 s.r.added) := cell_blk HBS.out 6
    have y7 : w2.cell? ⟨g, 7, none⟩ = some (.int .i64 s.r.same) := cell_blk HBS.out 7
    have y8 : w2.cell? ⟨g, 8, none⟩ = some (.int .i64 s.r.other) := cell_blk HBS.out 8
    have y9 : w2.cell? ⟨g, 9, none⟩ = some (.int .i64 s.r.cycle) := cell_blk HBS.out 9
    have y10 : w2.cell? ⟨g, 10, none⟩ = some (.int .i64 s.r.full) := cell_blk HBS.out 10
    obtain ⟨hsq1, hsq2⟩ := hsq
    have hw : wrap64 (s.seq + 1) = s.seq + 1 := IntWalk.wrap64_in _ (by omega)
    by_cases h1 : q < s.seq
    · have HF := Lib.hid (show askS L n q = (zeroR, false, 81) by rw [HAS.out, if_pos (.inl h1)])
      have HSM := Lib.hid (setRow_heap w2 w.heap.size _ (replyC zeroR) 26 (0, 0) HB21.out)
      have HSU := Lib.hid (setRow_upd w2 w.heap.size (replyC zeroR))
      go_wp2_with (refine wpList_store_row rfl 26 (.tmp 6) (.tmp 32) rfl w.heap.size (replyC zeroR) rfl rfl 26 _ HB21.out rep8 rfl (repC_one _) ?_)
      (try go_wp2_with fail)
      (try simp only [Exit.inBlock, Exit.then])
      refine bodyPost_ret (results_reply rfl _ _ _ _ _ _ rfl HSM.out) rfl ?_
      rw [HF.out]
      exact ⟨rfl, HSU.out.ext HX2.out (fun k hk => by have hk' : k = w.heap.size := hk; omega)⟩
    · by_cases h2 : q < 1
      · have HF := Lib.hid (show askS L n q = (zeroR, false, 81) by rw [HAS.out, if_pos (.inr h2)])
        have HSM := Lib.hid (setRow_heap w2 w.heap.size _ (replyC zeroR) 26 (0, 0) HB21.out)
        have HSU := Lib.hid (setRow_upd w2 w.heap.size (replyC zeroR))
        go_wp2_with (refine wpList_store_row rfl 26 (.tmp 6) (.tmp 32) rfl w.heap.size (replyC zeroR) rfl rfl 26 _ HB21.out rep8 rfl (repC_one _) ?_)
        (try go_wp2_with fail)
        (try simp only [Exit.inBlock, Exit.then])
        refine bodyPost_ret (results_reply rfl _ _ _ _ _ _ rfl HSM.out) rfl ?_
        rw [HF.out]
        exact ⟨rfl, HSU.out.ext HX2.out (fun k hk => by have hk' : k = w.heap.size := hk; omega)⟩
      · by_cases h3 : q = s.seq
        · have HF := Lib.hid (show askS L n q = (s.r, true, 0) by rw [HAS.out, if_neg (by omega), if_pos h3])
          have hb3 : (q == s.seq) = true := beq_iff_eq.2 h3
          clear h1 h3
          have h1 : ¬ q < s.seq := by have := beq_iff_eq.1 hb3; omega
          have HSM := Lib.hid (setRow_heap w2 w.heap.size _ (replyC s.r) 26 (0, 0) HB21.out)
          have HSU := Lib.hid (setRow_upd w2 w.heap.size (replyC s.r))
          go_wp2_with (refine wpList_store_row rfl 26 (.tmp 6) (.tmp 38) rfl w.heap.size (replyC s.r) rfl rfl 26 _ HB21.out rep8 rfl (repC_one _) ?_)
          (try go_wp2_with fail)
          (try simp only [Exit.inBlock, Exit.then])
          refine bodyPost_ret (results_reply rfl _ _ _ _ _ _ rfl HSM.out) rfl ?_
          rw [HF.out]
          exact ⟨rfl, HSU.out.ext HX2.out (fun k hk => by have hk' : k = w.heap.size := hk; omega)⟩
        · have hb3 : (q == s.seq) = false := beq_eq_false_iff_ne.2 h3
          by_cases h4 : s.seq + 1 < q
          · have HF := Lib.hid (show askS L n q = (zeroR, false, 82) by rw [HAS.out, if_neg (by omega), if_neg h3, if_pos (by omega)])
            have HSM := Lib.hid (setRow_heap w2 w.heap.size _ (replyC zeroR) 26 (0, 0) HB21.out)
            have HSU := Lib.hid (setRow_upd w2 w.heap.size (replyC zeroR))
            go_wp2_with (refine wpList_store_row rfl 26 (.tmp 6) (.tmp 44) rfl w.heap.size (replyC zeroR) rfl rfl 26 _ HB21.out rep8 rfl (repC_one _) ?_)
            (try go_wp2_with fail)
            (try simp only [Exit.inBlock, Exit.then])
            refine bodyPost_ret (results_reply rfl _ _ _ _ _ _ rfl HSM.out) rfl ?_
            rw [HF.out]
            exact ⟨rfl, HSU.out.ext HX2.out (fun k hk => by have hk' : k = w.heap.size := hk; omega)⟩
          · have HF := Lib.hid (show askS L n q = (zeroR, false, 0) by rw [HAS.out, if_neg (by omega), if_neg h3, if_neg (by omega)])
            have HSM := Lib.hid (setRow_heap w2 w.heap.size _ (replyC zeroR) 26 (0, 0) HB21.out)
            have HSU := Lib.hid (setRow_upd w2 w.heap.size (replyC zeroR))
            go_wp2_with (refine wpList_store_row rfl 26 (.tmp 6) (.tmp 45) rfl w.heap.size (replyC zeroR) rfl rfl 26 _ HB21.out rep8 rfl (repC_one _) ?_)
            (try go_wp2_with fail)
            (try simp only [Exit.inBlock, Exit.then])
            refine bodyPost_ret (results_reply rfl _ _ _ _ _ _ rfl HSM.out) rfl ?_
            rw [HF.out]
            exact ⟨rfl, HSU.out.ext HX2.out (fun k hk => by have hk' : k = w.heap.size := hk; omega)⟩
end Go.Proofs.Ytkedmpppfejofaa
set_option linter.unusedVariables false
set_option linter.unusedSimpArgs false
namespace Go.Proofs.Ytkedmpppfejofaa
open Go.RowKit

def anyB (l : List SeatS) (n : Int) : Bool := l.any fun s => decide (n < s.session)
theorem insS_snoc (x y : SeatS) : ∀ l : List SeatS, insS x (l ++ [y]) = if anyB l x.session = true then insS x l ++ [y] else if x.session < y.session then l ++ [x, y] else l ++ [y, x]
  | [] => by
    simp only [anyB, List.any_nil, Bool.false_eq_true, if_false, List.nil_append, insS]
  | z :: l => by
    have ih := insS_snoc x y l
    simp only [List.cons_append, insS, ih]
    unfold anyB at ih ⊢
    rw [List.any_cons]
    by_cases h : x.session < z.session
    · simp [h]
    · simp only [h, if_false, decide_false, Bool.false_or]
      split
      · rfl
      · split <;> simp
theorem insS_end (x : SeatS) : ∀ l : List SeatS, anyB l x.session = false → insS x l = l ++ [x]
  | [], _ => rfl
  | z :: l, h => by
    unfold anyB at h
    rw [List.any_cons, Bool.or_eq_false_iff] at h
    have h1 : ¬ x.session < z.session := by simpa using h.1
    unfold insS
    rw [if_neg h1, insS_end x l h.2]
    rfl
/-- What the loop has, behind k seats. -/
def opn (x : SeatS) (l : List SeatS) : List SeatS := if anyB l x.session = true then insS x l else l
theorem anyB_snoc (l : List SeatS) (y : SeatS) (n : Int) : anyB (l ++ [y]) n = (anyB l n || decide (n < y.session)) := by simp [anyB]
theorem opn_snoc (x y : SeatS) (l : List SeatS) : opn x (l ++ [y]) = if anyB l x.session = false ∧ x.session < y.session then opn x l ++ [x] ++ [y] else opn x l ++ [y] := by
  unfold opn
  rw [anyB_snoc, insS_snoc]
  cases h : anyB l x.session
  · by_cases h1 : x.session < y.session <;> simp [h1]
  · simp
theorem opn_len (x : SeatS) (l : List SeatS) : (opn x l).length ≤ l.length + 1 := by
  unfold opn
  split
  · rw [insS_len]; omega
  · omega
theorem opn_end (x : SeatS) (l : List SeatS) : (if anyB l x.session = true then opn x l else opn x l ++ [x]) = insS x l := by
  unfold opn
  cases h : anyB l x.session
  · simp [insS_end x l h]
  · simp
theorem putS_new {L : List SeatS} {x : SeatS} (h : findS L x.session = none) : putS L x = insS x L := by
  unfold putS
  rw [List.filter_eq_self.2]
  intro s hs
  simpa using find_none.1 h s hs
theorem idx_false {n : Int} : idxF n = false ↔ n < 1 ∨ 1099511627776 < n := by
  simp [idxF]
  omega
/-- One seat more. -/
theorem list_app_seat {ops : Array Oper} {o : Oper} {rest : List Oper} {a : Act} {Q : Exit → Act → World → Prop} {W : World} (ss sy : Nat) (hgd : o.guard = none)
    (ho : o.op = .call { callee := .builtin .append, args := #[.tmp ss, .tmp sy], argTypes := #[44, 44] }) {base : Nat} {v : Value} {xs : List SeatS} (s : SeatS) (hs : SeatI s) (hl : xs.length ≤ 1000) (hb : base ≤ W.heap.size)
    (hv : a.eval (.tmp ss) = v) (hy : a.eval (.tmp sy) = .slice (some ⟨W.heap.size, 0, none⟩) 1 1) (how : Ow kSeat 47 W base (base ≤ ·) v xs)
    (h : ∀ v' w', Hid (Ow kSeat 47 w' base (base ≤ ·) v' (xs ++ [s])) → Hid (∀ w0 : World, w0.heap.size ≤ base → Ext w0 W → Ext w0 w') → Hid (∀ k o, W.heap[k]? = some o → some k ≠ v.ownBlock → w'.heap[k]? = some o) → wpList Try.prog ops Q rest (a.put o.dst v') w') :
    wpList Try.prog ops Q (o :: rest) a (W.alloc (.cells (seatC s) 47)) := by
  refine wpList_append_Rs kSeat hgd (.tmp ss) (.tmp sy) 44 47 ho tSeats base v (.slice (some ⟨W.heap.size, 0, none⟩) 1 1) xs [s] (base ≤ ·) (fun b => b = W.heap.size) hv hy (how.alloc _) (Rs.one_seat (heap_alloc_new W _) rfl hs)
    (fun y cs hy => kSeat_iff.2 (kSeat_iff.1 hy)) (fun b hb2 => by simp at hb2; omega) (by simp; omega) (by simp; omega) (fun v' w' h1 hg _ => h v' w' (Lib.hid h1) (Lib.hid fun w0 h0 hx => (hx.alloc _).grown hg (fun j hj => Nat.le_trans h0 (how.from_ j hj))) (Lib.hid fun k o hk hn => (hg.block k (Nat.lt_of_lt_of_le (Array.getElem?_eq_some_iff.1 hk).1 (by simp)) hn).trans (blk_ext hk ((Ext.refl W).alloc _))))
set_option maxRecDepth 100000 in
set_option maxHeartbeats 8000000 in
theorem ROpen_calls (w : World) (p : Nat) (E : Nat → Prop) (L : List SeatS) (n : Int) (hok : TabOk L) (hE : ∀ k, E k → k < w.heap.size) (h : RTab w p E L) :
    Calls Try.prog 24 #[.pointer (some ⟨p, 0, none⟩), .int .i64 n] w fun e w' => e = .returned (.int .i64 (openS L n).2) ∧ RTab w' p E (openS L n).1 ∧ Upd (fun k => k = p) w w' := by
  have HT := Lib.hid h
  have HOK := Lib.hid hok
  have HE := Lib.hid hE
  have hl8 := hok.len
  have HO := Lib.hid (show openS L n = if idxF n = false ∨ (findS L n).isSome = true then (L, 1) else if 8 ≤ L.length then (L, 7) else (putS L ⟨n, 0, n, zeroR⟩, 0) from rfl)
  clear hok hE
  have hend : ∀ W : World, w = W → (openS L n).1 = L → RTab W p E (openS L n).1 ∧ Upd (fun k => k = p) w W := fun W e e2 => by rw [← e, e2]; exact ⟨HT.out, Upd.refl _ _⟩
  have HEND := Lib.hid hend
  clear hend h
  by_cases h1 : n < 1
  · have HF := Lib.hid (show openS L n = (L, 1) by rw [HO.out, if_pos (.inl (idx_false.2 (.inl h1)))])
    go_enter Try.func24, Try.ntmps24
    go_wp2_with fail
    go_ret
    exact ⟨int_ret (by rw [HF.out]), HEND.out _ rfl (by rw [HF.out])⟩
  by_cases h2 : 1099511627776 < n
  · have HF := Lib.hid (show openS L n = (L, 1) by rw [HO.out, if_pos (.inl (idx_false.2 (.inr h2)))])
    go_enter Try.func24, Try.ntmps24
    go_wp2_with fail
    go_ret
    exact ⟨int_ret (by rw [HF.out]), HEND.out _ rfl (by rw [HF.out])⟩
  have hix : idxF n = true := idxF_iff.2 ⟨by omega, by omega⟩
  rcases plc_find L n with ⟨hp, hf⟩ | ⟨k, hk, hp, hf, -⟩
  · rw [hix, hf] at HO
    simp only [Bool.true_eq_false, Option.isSome_none, Bool.false_eq_true, or_self, if_false] at HO
    obtain ⟨v, hb, hr, hEp⟩ := HT.out
    have HB := Lib.hid hb
    have HEP := Lib.hid hEp
    obtain ⟨A, c, rfl, hl, hc, hz, hrow⟩ := hr
    have HR := Lib.hid hrow
    have HPN := Lib.hid (putS_new (x := ⟨n, 0, n, zeroR⟩) hf)
    have hcell : w.cell? ⟨p, 0, none⟩ = some (.slice A L.length c) := cell_blk hb 0
    have HFF := Lib.hid hf
    clear hb hrow hf hEp
    by_cases h8 : L.length = 8
    · have HF := Lib.hid (show openS L n = (L, 7) by rw [HO.out, if_pos (by omega)])
      have hb8 : ((L.length : Int) == 8) = true := by simp [h8]
      clear h8
      go_enter Try.func24, Try.ntmps24
      go_wp2_with fail
      refine (place_calls w p E L n HT.out).mono ?_
      rw [hp]
      rintro e w' ⟨rfl, rfl⟩
      go_wp2_with fail
      go_ret
      exact ⟨int_ret (by rw [HF.out]), HEND.out _ rfl (by rw [HF.out])⟩
    · have HF := Lib.hid (show openS L n = (putS L ⟨n, 0, n, zeroR⟩, 0) by rw [HO.out, if_neg (by omega)])
      have hb8 : ((L.length : Int) == 8) = false := by simp; omega
      clear h8
      have hni : I64 n := ⟨by omega, by omega⟩
      have HSI := Lib.hid (show SeatI ⟨n, 0, n, zeroR⟩ from ⟨hni, i64s (n := 0) ⟨Int.le_refl 0, by omega⟩, hni, .of_chk chk_zeroR⟩)
      obtain ⟨x, hx⟩ : ∃ x : SeatS, x = ⟨n, 0, n, zeroR⟩ := ⟨_, rfl⟩
      have HXE := Lib.hid hx
      rw [← hx] at HF HPN
      have HXS := Lib.hid (show x.session = n by rw [hx])
      clear hx hni
      go_enter Try.func24, Try.ntmps24
      go_wp2_with fail
      refine (place_calls w p E L n HT.out).mono ?_
      rw [hp]
      rintro e w' ⟨rfl, rfl⟩
      clear HEND
      go_wp2_with fail
      go_loopw [5, 6, 32] (fun v d i wr => ∃ k : Nat, k ≤ L.length ∧ i = .int .i64 k ∧ d = .bool (anyB (L.take k) n) ∧ Hid (Ow kSeat 47 wr w.heap.size (w.heap.size ≤ ·) v (opn x (L.take k))) ∧ Hid (Ext w wr)) (fun _ _ i _ => L.length - (intOf i).toNat)
      case atStart => exact ⟨0, Nat.zero_le _, rfl, rfl, Lib.hid (Ow.nil _ _ _ _ _), Lib.hid (Ext.refl _)⟩
      case round =>
        obtain ⟨k, hk, rfl, rfl, HO, HX⟩ := hrel
        have hol := opn_len x (L.take k)
        rw [List.length_take] at hol
        have hol9 : (opn x (L.take k)).length ≤ 1000 := by omega
        have HL2 := Lib.hid (show (opn x (L.take k)).length ≤ 9 by omega)
        have HOL := Lib.hid hol9
        clear hol hol9
        by_cases hlt : k < L.length
        · obtain ⟨ad, rfl, -, -, hi, hx⟩ := (HR.out.keep (w' := wr) fun b _ hl => HX.out.block b hl).seat hlt
          obtain ⟨x0, x1, x2, x3, x4, x5, x6, x7, x8, x9, x10⟩ := seat_at hx
          have HI := Lib.hid hi
          have HTK := Lib.hid (show opn x (L.take (k + 1)) = if anyB (L.take k) n = false ∧ n < L[k].session then opn x (L.take k) ++ [x] ++ [L[k]] else opn x (L.take k) ++ [L[k]] by
            rw [List.take_succ_eq_append_getElem hlt, opn_snoc, HXS.out])
          have HAN := Lib.hid (show anyB (L.take (k + 1)) n = (anyB (L.take k) n || decide (n < L[k].session)) by rw [List.take_succ_eq_append_getElem hlt, anyB_snoc])
          generalize L[k] = s at *
          generalize anyB (L.take k) n = dn at *
          generalize opn x (L.take k) = acc at *
          clear hx hi
          go_upto_region 10 with fail
          obtain ⟨w2, hw2⟩ : ∃ w2, w2 = wr.alloc (.cells (seatC s) 47) := ⟨_, rfl⟩
          obtain ⟨g, hg⟩ : ∃ g, g = wr.heap.size := ⟨_, rfl⟩
          have hx2 : Ext wr w2 := by rw [hw2]; exact (Ext.refl _).alloc _
          have HX2 := Lib.hid (HX.out.trans hx2)
          have HO2 := Lib.hid (HO.out.ext hx2)
          have HBS := Lib.hid (show w2.heap[g]? = some (.cells (seatC s) 47 (0, 0)) by rw [hw2]; exact heap_new wr g hg.symm _)
          have HG := Lib.hid (show w.heap.size ≤ g by rw [hg]; exact HX.out.le)
          have HNG := Lib.hid (show some g ≠ Value.ownBlock _ from fun e => by have := HO.out.lt g e.symm; omega)
          unfold seatC at hw2
          rw [← hw2, ← hg]
          clear hw2 hg hx2 x0 x1 x2 x3 x4 x5 x6 x7 x8 x9 x10 HX HO
          have y0 : w2.cell? ⟨g, 0, none⟩ = some (.int .i64 s.session) := cell_blk HBS.out 0
          by_cases hin : dn = false ∧ n < s.session
          · obtain ⟨rfl, hls⟩ := hin
            have HT1 := Lib.hid (show opn x (L.take (k + 1)) = acc ++ [x, s] by rw [HTK.out, if_pos ⟨rfl, hls⟩]; simp)
            have HA1 := Lib.hid (show anyB (L.take (k + 1)) n = true by rw [HAN.out, decide_eq_true hls]; rfl)
            clear HTK HAN
            go_wp2_with (at_builtin; refine list_app_seat 44 48 rfl rfl (base := w.heap.size) ⟨n, 0, n, zeroR⟩ HSI.out HOL.out ?hb rfl rfl HO2.out ?_)
            case hb => exact HX2.out.le
            intro v3 w3 ho3 hx3 hk3
            rw [← HXE.out] at ho3
            have HX3 := Lib.hid (hx3.out w (Nat.le_refl _) HX2.out)
            have HBS3 := Lib.hid (hk3.out g _ HBS.out HNG.out)
            have HOL3 := Lib.hid (show (acc ++ [x]).length ≤ 1000 by rw [List.length_append]; have := HL2.out; simp; omega)
            clear hx3 hk3 y0 hls
            go_upto_region 13 with fail
            have z0 : w3.cell? ⟨g, 0, none⟩ = some (.int .i64 s.session) := cell_blk HBS3.out 0
            have z1 : w3.cell? ⟨g, 1, none⟩ = some (.int .i64 s.seq) := cell_blk HBS3.out 1
            have z2 : w3.cell? ⟨g, 2, none⟩ = some (.int .i64 s.at_) := cell_blk HBS3.out 2
            have z3 : w3.cell? ⟨g, 3, none⟩ = some (.int .i64 s.r.err) := cell_blk HBS3.out 3
            have z4 : w3.cell? ⟨g, 4, none⟩ = some (.int .i64 s.r.session) := cell_blk HBS3.out 4
            have z5 : w3.cell? ⟨g, 5, none⟩ = some (.int .i64 s.r.gone) := cell_blk HBS3.out 5
            have z6 : w3.cell? ⟨g, 6, none⟩ = some (.int .i64 s.r.added) := cell_blk HBS3.out 6
            have z7 : w3.cell? ⟨g, 7, none⟩ = some (.int .i64 s.r.same) := cell_blk HBS3.out 7
            have z8 : w3.cell? ⟨g, 8, none⟩ = some (.int .i64 s.r.other) := cell_blk HBS3.out 8
            have z9 : w3.cell? ⟨g, 9, none⟩ = some (.int .i64 s.r.cycle) := cell_blk HBS3.out 9
            have z10 : w3.cell? ⟨g, 10, none⟩ = some (.int .i64 s.r.full) := cell_blk HBS3.out 10
            go_wp2_with (at_builtin; refine list_app_seat 50 52 rfl rfl (base := w.heap.size) s HI.out HOL3.out ?hb rfl rfl ho3.out ?_)
            case hb => exact HX3.out.le
            intro v5 w5 ho5 hx5 _
            have HX5 := Lib.hid (hx5.out w (Nat.le_refl _) HX3.out)
            rw [← HT1.out] at ho5
            clear hx5 z0 z1 z2 z3 z4 z5 z6 z7 z8 z9 z10
            go_wp2_with fail
            go_roundw
            case rel => exact ⟨k + 1, by omega, by go_num, by rw [HA1.out], ho5, HX5⟩
            case measure => simp [intOf]; omega
          · have HT1 := Lib.hid (show opn x (L.take (k + 1)) = acc ++ [s] by rw [HTK.out, if_neg hin])
            have HA1 := Lib.hid (show anyB (L.take (k + 1)) n = dn by
              rw [HAN.out]
              cases dn
              · have : ¬ n < s.session := fun h => hin ⟨rfl, h⟩
                simp [this]
              · rfl)
            have hls : dn = false → ¬ n < s.session := fun h1 h2 => hin ⟨h1, h2⟩
            have HLS := Lib.hid hls
            clear hin HTK HAN hls
            cases dn
            · have hls := HLS.out rfl
              clear HLS
              have z0 : w2.cell? ⟨g, 0, none⟩ = some (.int .i64 s.session) := cell_blk HBS.out 0
              have z1 : w2.cell? ⟨g, 1, none⟩ = some (.int .i64 s.seq) := cell_blk HBS.out 1
              have z2 : w2.cell? ⟨g, 2, none⟩ = some (.int .i64 s.at_) := cell_blk HBS.out 2
              have z3 : w2.cell? ⟨g, 3, none⟩ = some (.int .i64 s.r.err) := cell_blk HBS.out 3
              have z4 : w2.cell? ⟨g, 4, none⟩ = some (.int .i64 s.r.session) := cell_blk HBS.out 4
              have z5 : w2.cell? ⟨g, 5, none⟩ = some (.int .i64 s.r.gone) := cell_blk HBS.out 5
              have z6 : w2.cell? ⟨g, 6, none⟩ = some (.int .i64 s.r.added) := cell_blk HBS.out 6
              have z7 : w2.cell? ⟨g, 7, none⟩ = some (.int .i64 s.r.same) := cell_blk HBS.out 7
              have z8 : w2.cell? ⟨g, 8, none⟩ = some (.int .i64 s.r.other) := cell_blk HBS.out 8
              have z9 : w2.cell? ⟨g, 9, none⟩ = some (.int .i64 s.r.cycle) := cell_blk HBS.out 9
              have z10 : w2.cell? ⟨g, 10, none⟩ = some (.int .i64 s.r.full) := cell_blk HBS.out 10
              go_wp2_with (at_builtin; refine list_app_seat 50 52 rfl rfl (base := w.heap.size) s HI.out HOL.out ?hb rfl rfl HO2.out ?_)
              case hb => exact HX2.out.le
              intro v5 w5 ho5 hx5 _
              have HX5 := Lib.hid (hx5.out w (Nat.le_refl _) HX2.out)
              rw [← HT1.out] at ho5
              clear hx5 z0 z1 z2 z3 z4 z5 z6 z7 z8 z9 z10
              go_wp2_with fail
              go_roundw
              case rel => exact ⟨k + 1, by omega, by go_num, by rw [HA1.out], ho5, HX5⟩
              case measure => simp [intOf]; omega
            · clear HLS
              have z0 : w2.cell? ⟨g, 0, none⟩ = some (.int .i64 s.session) := cell_blk HBS.out 0
              have z1 : w2.cell? ⟨g, 1, none⟩ = some (.int .i64 s.seq) := cell_blk HBS.out 1
              have z2 : w2.cell? ⟨g, 2, none⟩ = some (.int .i64 s.at_) := cell_blk HBS.out 2
              have z3 : w2.cell? ⟨g, 3, none⟩ = some (.int .i64 s.r.err) := cell_blk HBS.out 3
              have z4 : w2.cell? ⟨g, 4, none⟩ = some (.int .i64 s.r.session) := cell_blk HBS.out 4
              have z5 : w2.cell? ⟨g, 5, none⟩ = some (.int .i64 s.r.gone) := cell_blk HBS.out 5
              have z6 : w2.cell? ⟨g, 6, none⟩ = some (.int .i64 s.r.added) := cell_blk HBS.out 6
              have z7 : w2.cell? ⟨g, 7, none⟩ = some (.int .i64 s.r.same) := cell_blk HBS.out 7
              have z8 : w2.cell? ⟨g, 8, none⟩ = some (.int .i64 s.r.other) := cell_blk HBS.out 8
              have z9 : w2.cell? ⟨g, 9, none⟩ = some (.int .i64 s.r.cycle) := cell_blk HBS.out 9
              have z10 : w2.cell? ⟨g, 10, none⟩ = some (.int .i64 s.r.full) := cell_blk HBS.out 10
              go_wp2_with (at_builtin; refine list_app_seat 50 52 rfl rfl (base := w.heap.size) s HI.out HOL.out ?hb rfl rfl HO2.out ?_)
              case hb => exact HX2.out.le
              intro v5 w5 ho5 hx5 _
              have HX5 := Lib.hid (hx5.out w (Nat.le_refl _) HX2.out)
              rw [← HT1.out] at ho5
              clear hx5 z0 z1 z2 z3 z4 z5 z6 z7 z8 z9 z10
              go_wp2_with fail
              go_roundw
              case rel => exact ⟨k + 1, by omega, by go_num, by rw [HA1.out], ho5, HX5⟩
              case measure => simp [intOf]; omega
        · obtain rfl : k = L.length := by omega
          have ho := HO.out
          rw [List.take_length] at ho
          have HOO := Lib.hid ho
          have HEN := Lib.hid (opn_end x L)
          have hpl : p < w.heap.size := HT.out.lt
          have HB2 := Lib.hid (blk_ext HB.out HX.out)
          rw [HXS.out] at HEN
          clear ho HO hlt
          have hxr := HX.out.le
          have HLE := Lib.hid (show anyB L n = anyB (L.take L.length) n by rw [List.take_length])
          have HOL2 := Lib.hid (show (opn x L).length ≤ 1000 by have := opn_len x L; omega)
          cases hd : anyB (L.take L.length) n
          · rw [← HLE.out] at hd
            have HF2 := Lib.hid (show (openS L n).1 = opn x L ++ [x] by rw [HF.out]; show putS L x = _; rw [HPN.out, ← HEN.out, hd]; rfl)
            clear hd
            go_wp2_with (at_builtin; refine list_app_seat 57 61 rfl rfl (base := w.heap.size) ⟨n, 0, n, zeroR⟩ HSI.out HOL2.out ?hb rfl rfl HOO.out ?_)
            case hb => exact HX.out.le
            intro v3 w3 ho3 hx3 hk3
            rw [← HXE.out, ← HF2.out] at ho3
            have HX3 := Lib.hid (hx3.out w (Nat.le_refl _) HX.out)
            have HB3 := Lib.hid (blk_ext HB.out HX3.out)
            have HST := Lib.hid (RTab.set HB3.out ho3.out.rs (fun k hk he => by have := HE.out k he; omega) HEP.out)
            have y0 : w3.cell? ⟨p, 0, none⟩ = some (.slice A L.length c) := cell_blk HB3.out 0
            have f0 : w3.frozen? ⟨p, 0, none⟩ = false := frozen_blk HB3.out 0
            obtain ⟨A3, c3, rfl, -⟩ := ho3.out.rs
            clear hx3 hk3
            go_wp2_with fail
            go_ret
            exact ⟨int_ret (by rw [HF.out]), HST.out.1, (HX3.out.upd _).trans HST.out.2⟩
          · rw [← HLE.out] at hd
            have HF2 := Lib.hid (show (openS L n).1 = opn x L by rw [HF.out]; show putS L x = _; rw [HPN.out, ← HEN.out, hd]; rfl)
            rw [← HF2.out] at HOO
            have HST := Lib.hid (RTab.set HB2.out HOO.out.rs (fun k hk he => by have := HE.out k he; omega) HEP.out)
            have y0 : wr.cell? ⟨p, 0, none⟩ = some (.slice A L.length c) := cell_blk HB2.out 0
            have f0 : wr.frozen? ⟨p, 0, none⟩ = false := frozen_blk HB2.out 0
            obtain ⟨A3, c3, rfl, -⟩ := HOO.out.rs
            clear hd
            go_wp2_with fail
            go_ret
            exact ⟨int_ret (by rw [HF.out]), HST.out.1, (HX.out.upd _).trans HST.out.2⟩
  · have HF := Lib.hid (show openS L n = (L, 1) by rw [HO.out, if_pos (.inr (by rw [hf]; rfl))])
    clear hf HO
    have hk0 : (0 : Int) ≤ k := by omega
    go_enter Try.func24, Try.ntmps24
    go_wp2_with fail
    refine (place_calls w p E L n HT.out).mono ?_
    rw [hp]
    rintro e w' ⟨rfl, rfl⟩
    go_wp2_with fail
    go_ret
    exact ⟨int_ret (by rw [HF.out]), HEND.out _ rfl (by rw [HF.out])⟩
end Go.Proofs.Ytkedmpppfejofaa
set_option linter.unusedVariables false
set_option linter.unusedSimpArgs false
namespace Go.Proofs.Ytkedmpppfejofaa
open Go.RowKit

set_option maxRecDepth 100000 in
set_option maxHeartbeats 4000000 in
theorem RExpire_calls (w : World) (p : Nat) (E : Nat → Prop) (L : List SeatS) (f : Int) (hok : TabOk L) (hE : ∀ k, E k → k < w.heap.size) (h : RTab w p E L) :
    Calls Try.prog 26 #[.pointer (some ⟨p, 0, none⟩), .int .i64 f] w fun e w' => e = .returned (.int .i64 ((L.length : Int) - ((stayL L f).length : Int))) ∧ RTab w' p E (stayL L f) ∧ Upd (fun k => k = p) w w' := by
  have HT := Lib.hid h
  have HE := Lib.hid hE
  have hl8 := hok.len
  obtain ⟨v, hb, hr, hEp⟩ := h
  have HB := Lib.hid hb
  have HEP := Lib.hid hEp
  obtain ⟨A, c, rfl, hl, hc, hz, hrow⟩ := hr
  have HR := Lib.hid hrow
  have hcell : w.cell? ⟨p, 0, none⟩ = some (.slice A L.length c) := cell_blk hb 0
  have hpl : p < w.heap.size := HT.out.lt
  clear hb hrow hEp hok hE
  go_enter Try.func26, Try.ntmps26
  go_wp2_with fail
  go_loopw [5, 14] (fun v i wr => ∃ k : Nat, k ≤ L.length ∧ i = .int .i64 k ∧ Hid (Ow kSeat 47 wr w.heap.size (w.heap.size ≤ ·) v (stayL (L.take k) f)) ∧ Hid (Ext w wr)) (fun _ i _ => L.length - (intOf i).toNat)
  case atStart => exact ⟨0, Nat.zero_le _, rfl, Lib.hid (Ow.nil _ _ _ _ _), Lib.hid (Ext.refl _)⟩
  case round =>
    obtain ⟨k, hk, rfl, HO, HX⟩ := hrel
    have hsl := stay_len (L.take k) f
    rw [List.length_take] at hsl
    have hsl8 : (stayL (L.take k) f).length ≤ 1000 := by omega
    have HSL := Lib.hid hsl8
    clear hsl hsl8
    by_cases hlt : k < L.length
    · obtain ⟨ad, rfl, -, -, hi, hx⟩ := (HR.out.keep (w' := wr) fun b _ hl => HX.out.block b hl).seat hlt
      have HTK := Lib.hid (stay_take_succ L f k hlt)
      have HI := Lib.hid hi
      obtain ⟨x0, x1, x2, x3, x4, x5, x6, x7, x8, x9, x10⟩ := seat_at hx
      generalize L[k] = s at *
      clear hx hi
      go_upto_region 5 with fail
      obtain ⟨w5, hw5⟩ : ∃ w5, w5 = wr.alloc (.cells (seatC s) 47) := ⟨_, rfl⟩
      obtain ⟨g, hg⟩ : ∃ g, g = wr.heap.size := ⟨_, rfl⟩
      have hx5 : Ext wr w5 := by rw [hw5]; exact (Ext.refl _).alloc _
      have HX5 := Lib.hid (HX.out.trans hx5)
      have HO5 := Lib.hid (HO.out.ext hx5)
      have hD5 : w5.heap[g]? = some (.cells (seatC s) 47 (0, 0)) := by rw [hw5]; exact heap_new wr g hg.symm _
      unfold seatC at hw5
      rw [← hw5, ← hg]
      clear hw5 hg hx5 x0 x1 x2 x3 x4 x5 x6 x7 x8 x9 x10 HX HO
      have x0 : w5.cell? ⟨g, 0, none⟩ = some (.int .i64 s.session) := cell_blk hD5 0
      have x1 : w5.cell? ⟨g, 1, none⟩ = some (.int .i64 s.seq) := cell_blk hD5 1
      have x2 : w5.cell? ⟨g, 2, none⟩ = some (.int .i64 s.at_) := cell_blk hD5 2
      have x3 : w5.cell? ⟨g, 3, none⟩ = some (.int .i64 s.r.err) := cell_blk hD5 3
      have x4 : w5.cell? ⟨g, 4, none⟩ = some (.int .i64 s.r.session) := cell_blk hD5 4
      have x5 : w5.cell? ⟨g, 5, none⟩ = some (.int .i64 s.r.gone) := cell_blk hD5 5
      have x6 : w5.cell? ⟨g, 6, none⟩ = some (.int .i64 s.r.added) := cell_blk hD5 6
      have x7 : w5.cell? ⟨g, 7, none⟩ = some (.int .i64 s.r.same) := cell_blk hD5 7
      have x8 : w5.cell? ⟨g, 8, none⟩ = some (.int .i64 s.r.other) := cell_blk hD5 8
      have x9 : w5.cell? ⟨g, 9, none⟩ = some (.int .i64 s.r.cycle) := cell_blk hD5 9
      have x10 : w5.cell? ⟨g, 10, none⟩ = some (.int .i64 s.r.full) := cell_blk hD5 10
      clear hD5
      by_cases hf : f ≤ s.at_
      · have HN5 := Lib.hid (show stayL (L.take (k + 1)) f = stayL (L.take k) f ++ [s] by rw [HTK.out, if_pos hf])
        go_wp2_with (at_builtin; refine list_app_seat 22 24 rfl rfl (base := w.heap.size) s HI.out HSL.out ?hb rfl rfl HO5.out ?_)
        case hb => exact HX5.out.le
        intro v6 w6 ho hg6 _
        rw [← HN5.out] at ho
        have HX6 := Lib.hid (hg6.out w (Nat.le_refl _) HX5.out)
        clear hg6 x0 x1 x2 x3 x4 x5 x6 x7 x8 x9 x10
        go_wp2_with fail
        go_roundw
        case rel => exact ⟨k + 1, by omega, by go_num, ho, HX6⟩
        case measure => simp [intOf]; omega
      · have HN5 := Lib.hid (show stayL (L.take (k + 1)) f = stayL (L.take k) f by rw [HTK.out, if_neg hf])
        have hlt2 : s.at_ < f := by omega
        rw [← HN5.out] at HO5
        clear hf
        go_wp2_with fail
        go_roundw
        case rel => exact ⟨k + 1, by omega, by go_num, HO5, HX5⟩
        case measure => simp [intOf]; omega
    · obtain rfl : k = L.length := by omega
      have ho2 := HO.out
      rw [List.take_length] at ho2
      have HO2 := Lib.hid ho2.rs
      have HB2 := Lib.hid (blk_ext HB.out HX.out)
      have HST := Lib.hid (RTab.set HB2.out HO2.out (fun k hk he => by have := HE.out k he; omega) HEP.out)
      obtain ⟨A2, c2, rfl, -⟩ := ho2.rs
      clear HO ho2 hlt hcell
      have y0 : wr.cell? ⟨p, 0, none⟩ = some (.slice A L.length c) := cell_blk HB2.out 0
      have f0 : wr.frozen? ⟨p, 0, none⟩ = false := frozen_blk HB2.out 0
      have hsl := stay_len L f
      have HW := Lib.hid (show wrap64 ((L.length : Int) - ((stayL L f).length : Int)) = (L.length : Int) - ((stayL L f).length : Int) from IntWalk.wrap64_in _ (by omega))
      clear hsl
      go_wp2_with fail
      go_ret
      exact ⟨int_ret HW.out, HST.out.1, (HX.out.upd _).trans HST.out.2⟩
end Go.Proofs.Ytkedmpppfejofaa
