/-
  Texts of this claim, put together: SessionEnds.
-/
import Derived.Test.YtkedmpppfejofaaZ5
set_option linter.unusedVariables false
set_option linter.unusedSimpArgs false
namespace Go.Proofs.Ytkedmpppfejofaa
open Go.RowKit

theorem stay_take_succ (L : List SeatS) (f : Int) (k : Nat) (hk : k < L.length) : stayL (L.take (k + 1)) f = if f ≤ L[k].at_ then stayL (L.take k) f ++ [L[k]] else stayL (L.take k) f := by
  unfold stayL
  rw [List.take_succ_eq_append_getElem hk, List.filter_append]
  by_cases h : f ≤ L[k].at_
  · rw [if_pos h, List.filter_cons_of_pos (by simpa using h), List.filter_nil]
  · rw [if_neg h, List.filter_cons_of_neg (by simpa using h), List.filter_nil, List.append_nil]
theorem stay_len (L : List SeatS) (f : Int) : (stayL L f).length ≤ L.length := List.length_filter_le _ _
theorem ask_gone {L : List SeatS} (hr : Rise L) {k : Nat} (hk : k < L.length) {f q : Int} (h : ¬ f ≤ L[k].at_) : askS (stayL L f) L[k].session q = (zeroR, false, 80) := by
  refine askS_none ?_
  rw [find_stay hr, find_rise hr hk, Option.filter_some, if_neg (by simpa using h)]
set_option maxRecDepth 100000 in
set_option maxHeartbeats 8000000 in
theorem SessionEnds_walk (w : World) (S0 : Nat → Prop) (v0 : Value) (l : List SDoS) (h0 : Rs kSDo w S0 v0 l) (fr : Int) (hfr : I64 fr) :
    Calls Try.prog 6 #[v0, .int .i64 fr] w fun e w' => e = .returned (.bool true) ∧ Ext w w' := by
  have H0 := Lib.hid h0
  have HFR := Lib.hid hfr
  obtain ⟨A0, c0, rfl, -⟩ := h0
  clear hfr
  have awk : ∀ W : World, Ext w W → Calls Try.prog 13 #[] W fun e w' => e = .returned (.bool true) ∧ Hid (Ext w w') := fun W hW => (awake_calls W).mono fun _ _ h => ⟨h.1, Lib.hid (hW.trans h.2)⟩
  go_enter Try.func6, Try.ntmps6
  by_cases ha : 200 < l.length
  · go_wp2_with fail
    refine (awk _ (Ext.refl _)).mono ?_
    rintro e w' ⟨rfl, HE⟩
    go_wp2_with fail
    go_ret
    exact ⟨rfl, HE.out⟩
  go_wp2_with fail
  refine (play_calls w _ _ l H0.out).mono ?_
  rintro e w2 ⟨p, b, hp, hb2, rfl, ht, hx⟩
  have HX2 := Lib.hid hx
  have HB := Lib.hid hb2
  have HT2 := Lib.hid ht
  have HOK := Lib.hid (playS_ok l)
  have hl8 := (playS_ok l).len
  generalize playS l = L at *
  clear hp hb2 ht hx
  go_wp2_with fail
  refine (Seats_calls w2 p b L HOK.out.rise HOK.out.i HOK.out.len1 HT2.out).mono ?_
  rintro e w3 ⟨v, rfl, ho, hx⟩
  have HT3 := Lib.hid (HT2.out.ext hx)
  have HX3 := Lib.hid (HX2.out.trans hx)
  have HBL := Lib.hid (show b < w2.heap.size from HT2.out.2.1.lt)
  have HS3 := Lib.hid ho.rs
  obtain ⟨A, c, rfl, -, -, -, -⟩ := ho.rs
  clear ho hx HT2 HX2
  go_wp2_with fail
  refine (Expire_calls w3 p b L fr HOK.out.rise HOK.out.len1 HT3.out).mono ?_
  rintro e w4 ⟨rfl, ht, hu⟩
  have HT4 := Lib.hid ht
  have HX4 := Lib.hid (hu.ext HX3.out (fun j hj => by rw [hj]; exact HB.out))
  have HS4 := Lib.hid (HS3.out.upd hu (fun j hj e => by have e' : j = b := e; have hj' : w2.heap.size ≤ j := hj; have := HBL.out; omega))
  obtain ⟨_, _, ev, -, -, -, hrow⟩ := HS4.out
  simp only [Value.slice.injEq] at ev
  obtain ⟨rfl, -, rfl⟩ := ev
  have HR4 := Lib.hid hrow.bound
  clear ht hu hrow HT3 HX3 HS3
  obtain ⟨n, hn⟩ : ∃ n : Int, n = (L.length : Int) - ((stayL L fr).length : Int) := ⟨_, rfl⟩
  rw [← hn]
  have HN := Lib.hid hn
  clear hn
  go_wp2_with fail
  go_loopw [8, 27] (fun v i wr => ∃ k : Nat, k ≤ L.length ∧ i = .int .i64 k ∧ Hid (Ow kSeat 47 wr w4.heap.size (w4.heap.size ≤ ·) v (stayL (L.take k) fr)) ∧ Hid (Ext w4 wr)) (fun _ i _ => L.length - (intOf i).toNat)
  case atStart => exact ⟨0, Nat.zero_le _, rfl, Lib.hid (Ow.nil _ _ _ _ _), Lib.hid (Ext.refl _)⟩
  case round =>
    obtain ⟨k, hk, rfl, HO, HX⟩ := hrel
    have hsl := stay_len (L.take k) fr
    rw [List.length_take] at hsl
    have hsl8 : (stayL (L.take k) fr).length ≤ 8 := by omega
    clear hsl
    by_cases hlt : k < L.length
    · obtain ⟨ad, rfl, -, -, hi, hx⟩ := (HR4.out.keep (w' := wr) fun b hb _ => HX.out.block b hb.2).seat hlt
      have HTK := Lib.hid (stay_take_succ L fr k hlt)
      have HI := Lib.hid hi
      have HAG := Lib.hid (fun q h => ask_gone (q := q) HOK.out.rise hlt (f := fr) h)
      have hsq := (HOK.out.ok _ (List.getElem_mem hlt)).seq
      obtain ⟨x0, x1, x2, x3, x4, x5, x6, x7, x8, x9, x10⟩ := seat_at hx
      generalize L[k] = s at *
      clear hx hi
      go_upto_region 10 with fail
      obtain ⟨w5, hw5⟩ : ∃ w5, w5 = wr.alloc (.cells (seatC s) 47) := ⟨_, rfl⟩
      obtain ⟨g, hg⟩ : ∃ g, g = wr.heap.size := ⟨_, rfl⟩
      have hx5 : Ext wr w5 := by rw [hw5]; exact (Ext.refl _).alloc _
      have HX5 := Lib.hid (HX.out.trans hx5)
      have HO5 := Lib.hid (HO.out.ext hx5)
      have hD5 : w5.heap[g]? = some (.cells (seatC s) 47 (0, 0)) := by rw [hw5]; exact heap_new wr g hg.symm _
      unfold seatC at hw5
      rw [← hw5, ← hg]
      clear hw5 hg hx5 x0 x1 x2 x3 x4 x5 x6 x7 x8 x9 x10 HX HO
      have x0 : w5.cell? ⟨g, 0, none⟩ = some (.int .i64 s.session) := cell_blk hD5 0
      have x1 : w5.cell? ⟨g, 1, none⟩ = some (.int .i64 s.seq) := cell_blk hD5 1
      have x2 : w5.cell? ⟨g, 2, none⟩ = some (.int .i64 s.at_) := cell_blk hD5 2
      have x3 : w5.cell? ⟨g, 3, none⟩ = some (.int .i64 s.r.err) := cell_blk hD5 3
      have x4 : w5.cell? ⟨g, 4, none⟩ = some (.int .i64 s.r.session) := cell_blk hD5 4
      have x5 : w5.cell? ⟨g, 5, none⟩ = some (.int .i64 s.r.gone) := cell_blk hD5 5
      have x6 : w5.cell? ⟨g, 6, none⟩ = some (.int .i64 s.r.added) := cell_blk hD5 6
      have x7 : w5.cell? ⟨g, 7, none⟩ = some (.int .i64 s.r.same) := cell_blk hD5 7
      have x8 : w5.cell? ⟨g, 8, none⟩ = some (.int .i64 s.r.other) := cell_blk hD5 8
      have x9 : w5.cell? ⟨g, 9, none⟩ = some (.int .i64 s.r.cycle) := cell_blk hD5 9
      have x10 : w5.cell? ⟨g, 10, none⟩ = some (.int .i64 s.r.full) := cell_blk hD5 10
      by_cases hf : fr ≤ s.at_
      · have HN5 := Lib.hid (show stayL (L.take (k + 1)) fr = stayL (L.take k) fr ++ [s] by rw [HTK.out, if_pos hf])
        clear hD5
        go_wp2_with (at_builtin; refine wpList_append_Rs kSeat rfl (.tmp 35) (.tmp 37) 44 47 rfl tSeats w4.heap.size _ _ (stayL (L.take k) fr) [s] (w4.heap.size ≤ ·) (fun b => b = w5.heap.size) rfl rfl ?co ?cr ?cs ?cn ?cb ?cz ?_)
        case co => exact HO5.out.alloc _
        case cr => exact Rs.one_seat (heap_new w5 _ rfl _) rfl HI.out
        case cs => exact fun y cs hy => kSeat_iff.2 (kSeat_iff.1 hy)
        case cn => intro b hb; have := HX5.out.le; omega
        case cb => omega
        case cz => have := HX5.out.le; omega
        intro v' w6 ho hg _
        have HO6 := Lib.hid (show Ow kSeat 47 w6 w4.heap.size (w4.heap.size ≤ ·) v' (stayL (L.take (k + 1)) fr) by rw [HN5.out]; exact ho)
        have HX6 := Lib.hid (show Ext w4 w6 from (HX5.out.alloc _).grown hg (fun j hj => HO5.out.from_ j hj))
        clear ho hg x0 x1 x2 x3 x4 x5 x6 x7 x8 x9 x10
        go_wp2_with fail
        go_roundw
        case rel => exact ⟨k + 1, by omega, by go_num, HO6, HX6⟩
        case measure => simp [intOf]; omega
      · have HN5 := Lib.hid (show stayL (L.take (k + 1)) fr = stayL (L.take k) fr by rw [HTK.out, if_neg hf])
        have HAG5 := Lib.hid (fun q => HAG.out q hf)
        clear hD5 HAG
        have hlt2 : s.at_ < fr := by omega
        clear hf
        obtain ⟨hsq1, hsq2⟩ := hsq
        go_wp2_with fail
        refine (Ask_calls w5 p b _ s.session (s.seq + 1) HI.out.1 ⟨by omega, by omega⟩ (HT4.out.ext HX5.out)).mono ?_
        rw [HAG5.out]
        rintro e w6 ⟨rfl, hx⟩
        have HO6 := Lib.hid (show Ow kSeat 47 (w6.alloc (.cells (replyC zeroR) 26)) w4.heap.size (w4.heap.size ≤ ·) _ (stayL (L.take (k + 1)) fr) by rw [HN5.out]; exact HO5.out.ext (hx.alloc _))
        have HX6 := Lib.hid ((HX5.out.trans hx).alloc (.cells (replyC zeroR) 26))
        clear hx x0 x1 x2 x3 x4 x5 x6 x7 x8 x9 x10
        dsimp only [replyC, zeroR]
        go_upto_region 13 with fail
        obtain ⟨w7, hw7⟩ : ∃ w7, w7 = w6.alloc (.cells (replyC zeroR) 26) := ⟨_, rfl⟩
        rw [← hw7] at HO6 HX6
        unfold replyC zeroR at hw7
        rw [← hw7]
        clear hw7
        go_wp2_with fail
        go_roundw
        case rel => exact ⟨k + 1, by omega, by go_num, HO6, HX6⟩
        case measure => simp [intOf]; omega
    · obtain rfl : k = L.length := by omega
      have ho2 := HO.out
      rw [List.take_length] at ho2 hsl8
      have HO2 := Lib.hid ho2.rs
      obtain ⟨A2, c2, rfl, -⟩ := ho2.rs
      clear HO ho2
      have HTr := Lib.hid (HT4.out.ext HX.out)
      have HOK2 := Lib.hid (HOK.out.stay fr)
      go_wp2_with fail
      refine (Seats_calls wr p b (stayL L fr) HOK2.out.rise HOK2.out.i HOK2.out.len1 HTr.out).mono ?_
      rintro e w8 ⟨v, rfl, ho, hx⟩
      have HX8 := Lib.hid ((HX4.out.trans HX.out).trans hx)
      have HO8 := Lib.hid ho.rs
      have HP8 := Lib.hid (HO2.out.ext hx)
      clear ho hx
      go_wp2_with fail
      refine (EqualS_calls w8 _ _ _ _ _ _ HO8.out HP8.out).mono ?_
      rw [eqL_self]
      rintro e w9 ⟨rfl, nn, rfl⟩
      have HX9 := Lib.hid (HX8.out.drewN nn)
      have hne : (n == wrap64 ((L.length : Int) - ((stayL L fr).length : Int))) = true := by
        rw [beq_iff_eq, HN.out]
        exact (IntWalk.wrap64_in _ (by omega)).symm
      go_wp2_with fail
      refine (awk _ HX9.out).mono ?_
      rintro e w' ⟨rfl, HE⟩
      go_wp2_with fail
      go_ret
      exact ⟨rfl, HE.out⟩
end Go.Proofs.Ytkedmpppfejofaa
