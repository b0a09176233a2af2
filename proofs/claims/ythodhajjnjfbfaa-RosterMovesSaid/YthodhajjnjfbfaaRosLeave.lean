/-
  roster.Leave: slices.DeleteFunc at a row of the call's own.
-/
import Derived.Test.YthodhajjnjfbfaaRosReach
import Derived.Test.YthodhajjnjfbfaaCut
import Derived.Lib.SliceRun
set_option linter.unusedVariables false
set_option linter.unusedSimpArgs false
namespace Go.Proofs.Ythodhajjnjfbfaa
open Go.RowKit

theorem leaveL_take_succ (l : List Int) (n : Int) (k : Nat) (hk : k < l.length) : leaveL (l.take (k + 1)) n = if l[k] = n then leaveL (l.take k) n else leaveL (l.take k) n ++ [l[k]] := by
  unfold leaveL
  rw [List.take_succ_eq_append_getElem hk, List.filter_append]
  by_cases h : l[k] = n
  · rw [if_pos h, List.filter_cons_of_neg (by simpa using h), List.filter_nil, List.append_nil]
  · rw [if_neg h, List.filter_cons_of_pos (by simpa using h), List.filter_nil]
theorem leaveL_le (l : List Int) (n : Int) : (leaveL l n).length ≤ l.length := List.length_filter_le _ _
theorem leaveL_none {l : List Int} {n : Int} (h : hasB l n = false) : leaveL l n = l := by
  unfold leaveL
  rw [List.filter_eq_self.2]
  intro x hx
  simp only [hasB, decide_eq_false_iff_not] at h
  simp only [decide_eq_true_eq]
  rintro rfl; exact h hx

section
variable {w : World} {S : Nat → Prop} {base : Nat} {e : TypeId} {g cap : Nat}
theorem Ow.szero : ∀ (m i : Nat) (w : World) (xs : List Int), Ow kInt e w base S (.slice (some ⟨g, 0, none⟩) xs.length cap) xs → i + m ≤ xs.length →
    ∃ ys, ys.length = xs.length ∧ ys.take i = xs.take i ∧ Ow kInt e (w.setCells g i (List.replicate m (.int .i64 0))) base S (.slice (some ⟨g, 0, none⟩) ys.length cap) ys ∧ Upd (fun b => b = g) w (w.setCells g i (List.replicate m (.int .i64 0)))
  | 0, i, w, xs, h, _ => ⟨xs, rfl, rfl, h, Upd.refl _ _⟩
  | m + 1, i, w, xs, h, him => by
    have h1 := (h.sset i 0 ⟨by omega, by omega⟩).1
    have h2 : Ow kInt e (w.setCell ⟨g, i, none⟩ (.int .i64 0)) base S (.slice (some ⟨g, 0, none⟩) (xs.set i 0).length cap) (xs.set i 0) := by rw [List.length_set]; exact h1
    obtain ⟨ys, h3, h4, h5, h6⟩ := Ow.szero m (i + 1) _ _ h2 (by rw [List.length_set]; omega)
    refine ⟨ys, by rw [h3, List.length_set], ?_, h5, ((Upd.refl (fun b => b = g) w).set (i := i) (.inl rfl) (.int .i64 0)).trans h6⟩
    have h7 := congrArg (List.take i) h4
    rw [List.take_take, List.take_take, Nat.min_eq_left (by omega), List.take_set_of_le (Nat.le_refl i)] at h7
    exact h7
theorem Ow.short {xs : List Int} (h : Ow kInt e w base S (.slice (some ⟨g, 0, none⟩) xs.length cap) xs) (i : Nat) (hi : i ≤ xs.length) : Ow kInt e w base S (.slice (some ⟨g, 0, none⟩) i cap) (xs.take i) := by
  obtain ⟨⟨h1, h2⟩, h3⟩ := h.srow
  have hS := h.1
  have hz := h.2.1
  rcases h2 with ⟨h2, _⟩ | ⟨g', cap', cur, h2, hb', hh, hn, hm, hs, ht⟩
  · simp at h2
  · simp only [Value.slice.injEq, Option.some.injEq, Addr.mk.injEq] at h2
    obtain ⟨⟨rfl, _, _⟩, _, rfl⟩ := h2
    have hl : (xs.take i).length = i := by rw [List.length_take]; omega
    refine Ow.of_srow ⟨by simp, .inr ⟨g, cap, cur, by rw [hl], hb', hh, by omega, hm, hs, ?_⟩⟩ (by omega) (fun k hk => by simp [Value.ownBlock] at hk; exact hk ▸ hS g rfl) (fun x hx => h3 x (List.mem_of_mem_take hx))
    have := congrArg (List.take i) ht
    rw [List.take_take, Nat.mul_one, Nat.min_eq_left hi, ← List.map_take] at this
    rw [hl, Nat.mul_one]
    exact this
end

theorem Leave1_calls (w : World) (p : Nat) (n x : Int) (hc : w.cell? ⟨p, 0, none⟩ = some (.int .i64 n)) :
    Calls Try.prog 37 #[.int .i64 x, .pointer (some ⟨p, 0, none⟩)] w fun e w' => e = .returned (.bool (decide (x = n))) ∧ w = w' := by
  by_cases h : x = n
  · have hb : (x == n) = true := beq_iff_eq.2 h
    have HD := Lib.hid (decide_eq_true h)
    clear h
    go_enter Try.func37, Try.ntmps37
    go_wp2
    go_ret
    exact ⟨bool_ret HD.out.symm, rfl⟩
  · have hb : (x == n) = false := beq_eq_false_iff_ne.2 h
    have HD := Lib.hid (decide_eq_false h)
    clear h
    go_enter Try.func37, Try.ntmps37
    go_wp2
    go_ret
    exact ⟨bool_ret HD.out.symm, rfl⟩

set_option maxHeartbeats 400000 in
theorem LeaveIdx_calls (w : World) (S : Nat → Prop) (v : Value) (l : List Int) (p : Nat) (n : Int) (hc : w.cell? ⟨p, 0, none⟩ = some (.int .i64 n)) (hr : Rs kInt w S v l) :
    Calls Try.prog 35 #[v, .func (.func 37) #[] #[.pointer (some ⟨p, 0, none⟩)]] w fun e w' => e = .returned (.int .i64 (idxI l n)) ∧ w = w' := by
  have HC := Lib.hid (fun x => Leave1_calls w p n x hc)
  clear hc
  obtain ⟨A, cp, rfl, hl, hcp, hz, hrow⟩ := hr
  have HR := Lib.hid hrow
  clear hrow
  go_enter Try.func35, Try.ntmps35
  go_wp2
  go_loop [8] (fun i => ∃ k : Nat, k ≤ l.length ∧ i = .int .i64 k ∧ Hid (idxFrom l n k = idxI l n)) (fun i => l.length - (intOf i).toNat)
  case atStart => exact ⟨0, Nat.zero_le _, rfl, Lib.hid (idxFrom_zero l n)⟩
  case round =>
    obtain ⟨k, hk, rfl, HQ⟩ := hrel
    by_cases hlt : k < l.length
    · obtain ⟨ad, rfl, hcell, _⟩ := HR.out.int hlt
      by_cases he : l[k] = n
      · have HE := Lib.hid (show idxI l n = k by rw [← HQ.out, ← he, idxFrom_hit l k hlt])
        have HB := Lib.hid (decide_eq_true he)
        clear he
        generalize l[k] = x at hcell HB
        go_wp2_with fail
        refine (HC.out x).mono ?_
        rw [HB.out]; rintro e w' ⟨rfl, rfl⟩
        go_wp2
        go_ret
        exact ⟨int_ret HE.out.symm, rfl⟩
      · have HE := Lib.hid (idxFrom_next l n k hlt (Ne.symm he))
        have HB := Lib.hid (decide_eq_false he)
        clear he
        generalize l[k] = x at hcell HB
        go_wp2_with fail
        refine (HC.out x).mono ?_
        rw [HB.out]; rintro e w' ⟨rfl, rfl⟩
        go_wp2
        go_round
        case rel => exact ⟨k + 1, by omega, by go_num, Lib.hid (HE.out ▸ HQ.out)⟩
        case measure => simp [intOf]; omega
    · obtain rfl : k = l.length := by omega
      clear hlt
      go_wp2
      go_ret
      exact ⟨int_ret (by rw [← HQ.out, idxFrom_end]), rfl⟩

theorem idxI_at {l : List Int} {n : Int} {i : Nat} (h : idxI l n = (i : Int)) : ∃ hi : i < l.length, l[i] = n ∧ leaveL (l.take i) n = l.take i := by
  induction l generalizing i with
  | nil => simp only [idxI] at h; omega
  | cons x l ih =>
    simp only [idxI] at h
    by_cases hx : n = x
    · rw [if_pos hx] at h
      obtain rfl : i = 0 := by omega
      exact ⟨by simp, by simp [hx], by simp [leaveL]⟩
    · rw [if_neg hx] at h
      by_cases hneg : idxI l n < 0
      · rw [if_pos hneg] at h; omega
      · rw [if_neg hneg] at h
        obtain ⟨j, rfl⟩ : ∃ j, i = j + 1 := ⟨i - 1, by omega⟩
        obtain ⟨h1, h2, h3⟩ := ih (i := j) (by omega)
        refine ⟨by simpa using h1, by simpa using h2, ?_⟩
        simp only [List.take_succ_cons]
        unfold leaveL at h3 ⊢
        rw [List.filter_cons_of_pos (by simpa using Ne.symm hx), h3]

set_option maxRecDepth 100000 in
set_option maxHeartbeats 2000000 in
theorem DeleteL_calls (w : World) (base : Nat) (S : Nat → Prop) (v : Value) (l : List Int) (p : Nat) (n : Int) (hc : w.heap[p]? = some (.cells #[.int .i64 n] 3 (0, 0))) (ho : Ow kInt 3 w base S v l) (hp : v.ownBlock ≠ some p) :
    Calls Try.prog 36 #[v, .func (.func 37) #[] #[.pointer (some ⟨p, 0, none⟩)]] w fun e w' => ∃ u, e = .returned u ∧ Ow kInt 3 w' base S u (leaveL l n) ∧ Upd (fun b => v.ownBlock = some b) w w' ∧ (u.ownBlock = v.ownBlock) := by
  have HP := Lib.hid hc
  have HI := Lib.hid (LeaveIdx_calls w S v l p n (cell_blk hc 0) ho.rs)
  clear hc
  by_cases hneg : idxI l n < 0
  · have hi : idxI l n = -1 := by have := idxI_bd l n; omega
    have HN := Lib.hid (show leaveL l n = l from leaveL_none (by
      have := idxI_has l n
      cases hb : hasB l n
      · rfl
      · rw [hb] at this; simp at this; omega))
    rw [hi] at HI
    have HO := Lib.hid ho
    obtain ⟨A, c, rfl⟩ := ho.rs.isS
    clear hneg hi ho
    go_enter Try.func36, Try.ntmps36
    go_wp2_with fail
    refine HI.out.mono ?_
    rintro e w' ⟨rfl, rfl⟩
    go_wp2
    go_ret
    exact ⟨_, rfl, by rw [HN.out]; exact HO.out, Upd.refl _ _, rfl⟩
  · obtain ⟨i, hi⟩ : ∃ i : Nat, idxI l n = (i : Int) := ⟨(idxI l n).toNat, by omega⟩
    obtain ⟨hil, hin, hit⟩ := idxI_at hi
    obtain ⟨g, cap, rfl, hgb, hgl, hcap, hSg⟩ := ho.form (by omega)
    have hgp : g ≠ p := fun e => hp (by rw [e]; rfl)
    have hzl := ho.2.1
    have hcm : cap ≤ 9223372036854775807 := by obtain ⟨_, _, e, _, h, _⟩ := ho.rs; injection e with _ _ e; omega
    rw [hi] at HI
    have hb : ((i : Int) == -1) = false := beq_eq_false_iff_ne.2 (by omega)
    have HO := Lib.hid ho
    have HT := Lib.hid (show leaveL (l.take (i + 1)) n = l.take i by rw [leaveL_take_succ l n i hil, if_pos hin, hit])
    clear hneg hi hin hit ho hp
    go_enter Try.func36, Try.ntmps36
    go_wp2_with fail
    refine HI.out.mono ?_
    rintro e w' ⟨rfl, rfl⟩
    go_wp2_with fail
    go_loopw [5, 6] (fun a b wr => ∃ (i j : Nat) (ys : List Int), a = .int .i64 i ∧ b = .int .i64 j ∧ i < j ∧ j ≤ l.length ∧ Hid (ys.length = l.length) ∧ Hid (ys.take i = leaveL (l.take j) n) ∧ Hid (ys.drop j = l.drop j) ∧ Hid (Ow kInt 3 wr base S (.slice (some ⟨g, 0, none⟩) ys.length cap) ys) ∧ Hid (Upd (fun b => b = g) w wr)) (fun _ b _ => l.length - (intOf b).toNat)
    case atStart => exact ⟨i, i + 1, l, rfl, by go_num, by omega, by omega, Lib.hid rfl, Lib.hid HT.out.symm, Lib.hid rfl, HO, Lib.hid (Upd.refl _ _)⟩
    case round =>
      clear HO HT hb HI
      obtain ⟨i, j, ys, rfl, rfl, hij, hj, HYL, HYT, HYD, HO, HU⟩ := hrel
      by_cases hlt : j < l.length
      · have hys : ys[j]'(by rw [HYL.out]; exact hlt) = l[j] := by
          have h := congrArg (fun z => z[0]?) HYD.out
          simp only [List.getElem?_drop, Nat.add_zero] at h
          rw [List.getElem?_eq_getElem (by rw [HYL.out]; exact hlt), List.getElem?_eq_getElem hlt] at h
          injection h
        have hcell := (HO.out.scell j (by rw [HYL.out]; exact hlt)).1
        rw [hys] at hcell
        have hI : I64 l[j] := by rw [← hys]; exact HO.out.rs.ints_I64 _ (List.getElem_mem _)
        have hcell' : wr.cell? ⟨g, j, none⟩ = some (.int .i64 l[j]) := hcell
        have HC1 := Lib.hid (fun x => Leave1_calls wr p n x (cell_blk (blk_upd HP.out HU.out (fun e => hgp e.symm)) 0))
        have HS := Lib.hid (leaveL_take_succ l n j hlt)
        have hD := List.drop_eq_getElem_cons hlt
        have HDD := Lib.hid (show ys.drop (j + 1) = l.drop (j + 1) by
          have h := congrArg (List.drop 1) HYD.out
          rwa [List.drop_drop, List.drop_drop] at h)
        clear hcell hys hD
        by_cases he : l[j] = n
        · have HB := Lib.hid (decide_eq_true he)
          have HE := Lib.hid (show ys.take i = leaveL (l.take (j + 1)) n by rw [HS.out, if_pos he, HYT.out])
          clear he
          generalize l[j] = x at hcell' HB hI HS
          go_wp2_with fail
          refine (HC1.out x).mono ?_
          rw [HB.out]; rintro e w' ⟨rfl, rfl⟩
          go_wp2
          go_roundw
          case rel => exact ⟨i, j + 1, ys, rfl, by go_num, by omega, by omega, HYL, HE, HDD, HO, HU⟩
          case measure => simp [intOf]; omega
        · have HB := Lib.hid (decide_eq_false he)
          have hset := (HO.out.sset i l[j] hI).1
          have hfr := (HO.out.scell i (by rw [HYL.out]; omega)).2
          have hcell2 := (HO.out.scell i (by rw [HYL.out]; omega)).1
          have HO2 : Hid (Ow kInt 3 (wr.setCell ⟨g, i, none⟩ (.int .i64 l[j])) base S (.slice (some ⟨g, 0, none⟩) (ys.set i l[j]).length cap) (ys.set i l[j])) := Lib.hid (by rw [List.length_set]; exact hset)
          have HYL2 := Lib.hid (show (ys.set i l[j]).length = l.length by rw [List.length_set, HYL.out])
          have HE := Lib.hid (show (ys.set i l[j]).take (i + 1) = leaveL (l.take (j + 1)) n by
            rw [HS.out, if_neg he, ← HYT.out, List.take_succ_eq_append_getElem (by rw [List.length_set, HYL.out]; omega), List.take_set_of_le (Nat.le_refl i), List.getElem_set_self])
          have HDD2 := Lib.hid (show (ys.set i l[j]).drop (j + 1) = l.drop (j + 1) by rw [List.drop_set_of_lt (by omega), HDD.out])
          have HU2 := Lib.hid (HU.out.set (i := i) (.inl rfl) (.int .i64 l[j]))
          clear he hset
          generalize ys[i]'(by rw [HYL.out]; omega) = z at hcell2
          generalize l[j] = x at hcell' HB hI HS HO2 HYL2 HE HDD2 HU2
          go_wp2_with fail
          refine (HC1.out x).mono ?_
          rw [HB.out]; rintro e w' ⟨rfl, rfl⟩
          go_wp2
          go_roundw
          case rel => exact ⟨i + 1, j + 1, _, by go_num, by go_num, by omega, by omega, HYL2, HE, HDD2, HO2, HU2⟩
          case measure => simp [intOf]; omega
      · obtain rfl : j = l.length := by omega
        clear hlt
        obtain ⟨zs, z1, z2, z3, z4⟩ := Ow.szero (l.length - i) i wr ys HO.out (by rw [HYL.out]; omega)
        have hfin := z3.short i (by rw [z1, HYL.out]; omega)
        rw [z2, HYT.out, List.take_length] at hfin
        have HF := Lib.hid hfin
        have HU2 := Lib.hid (HU.out.trans z4)
        clear hfin z1 z2 z3 z4
        have e1 : partV (some ⟨g, 0, none⟩) cap i l.length = .slice (some ⟨g, i, none⟩) (l.length - i) (cap - i) := by
          unfold partV restA
          rw [if_neg (by omega)]
          simp [add_lit0]
        have e2 : partV (some ⟨g, 0, none⟩) cap 0 i = .slice (some ⟨g, 0, none⟩) i cap := by
          unfold partV restA
          split <;> simp [add_lit0]
        have hs1 : ∀ W, (Instr.sliceAt 22 (.slice (some ⟨g, 0, none⟩) l.length cap) (some (.int .i64 (i : Int))) none none).run Try.prog W = .ok (.slice (some ⟨g, i, none⟩) (l.length - i) (cap - i)) W := fun W => by
          rw [← e1]; exact slice_from tInts _ _ _ _ _ i rfl (by omega) W
        have hs2 : ∀ W, (Instr.sliceAt 22 (.slice (some ⟨g, 0, none⟩) l.length cap) none (some (.int .i64 (i : Int))) none).run Try.prog W = .ok (.slice (some ⟨g, 0, none⟩) i cap) W := fun W => by
          rw [← e2]; exact slice_to tInts _ _ _ _ _ i rfl (by omega) W
        have hcl : ∀ ty, (Builtin.clear_ #[22] ty #[.slice (some ⟨g, i, none⟩) (l.length - i) (cap - i)]).run Try.prog wr = .ok (.tuple #[]) (wr.setCells g i (List.replicate (l.length - i) (.int .i64 0))) :=
          fun ty => Lib.run_clear_slice wr 22 3 ty (.int .i64 0) Try.underlying22 Try.zeroValue3 rfl rfl g i (l.length - i) (cap - i) (by omega)
            (fun t ht => by rw [(HO.out.scell (i + t) (by rw [HYL.out]; omega)).1]; rfl) (fun t ht => (HO.out.scell (i + t) (by rw [HYL.out]; omega)).2)
        clear e1 e2
        go_wp2
        go_ret
        exact ⟨_, rfl, HF.out, HU2.out.mono (fun k hk => by rw [hk]; rfl), rfl⟩

set_option maxHeartbeats 400000 in
theorem Leave_calls (w : World) (S : Nat → Prop) (v : Value) (l : List Int) (hr : Rs kInt w S v l) (n : Int) (hsz : l.length ≤ 1000000) :
    Calls Try.prog 28 #[v, .int .i64 n] w fun e w' => ∃ u, e = .returned u ∧ Ow kInt 3 w' w.heap.size (w.heap.size ≤ ·) u (leaveL l n) ∧ Ext w w' := by
  have HR := Lib.hid hr
  have HB := Lib.hid (heap_new w _ rfl (.cells #[.int .i64 n] 3))
  clear hr
  go_enter Try.func28, Try.ntmps28
  go_wp2_with fail
  refine (CloneI_calls _ _ _ l (HR.out.alloc (.cells #[.int .i64 n] 3)) (by omega)).mono ?_
  rintro e w1 ⟨u, rfl, ho, he⟩
  have HO := Lib.hid ho
  have HB1 := Lib.hid (blk_ext HB.out he)
  have HE := Lib.hid (((Ext.refl w).alloc _).trans he)
  clear ho he HB
  go_wp2_with fail
  refine (DeleteL_calls _ _ _ _ l w.heap.size n HB1.out HO.out (fun e => by have := HO.out.from_ _ e; simp at this; omega)).mono ?_
  rintro e w2 ⟨x, rfl, ho, hu, hxe⟩
  have HO2 := Lib.hid (ho.lower (base' := w.heap.size) (by simp))
  have HE2 := Lib.hid (hu.ext HE.out (fun k hk => by have := HO.out.from_ _ hk; simp at this; omega))
  clear ho hu hxe
  go_wp2
  go_ret
  exact ⟨_, rfl, HO2.out.mono (fun b hb => by simp at hb; omega), HE2.out⟩

set_option maxHeartbeats 400000 in
theorem Join2_calls (w : World) (S : Nat → Prop) (v : Value) (l : List Int) (hr : Rs kInt w S v l) (n : Int) (hn : I64 n) (hsz : l.length ≤ 1000000) :
    Calls Try.prog 27 #[v, .int .i64 n] w fun e w' => ∃ u, e = .returned u ∧ Ow kInt 3 w' w.heap.size (w.heap.size ≤ ·) u (joinL l n) ∧ Ext w w' := by
  have HR := Lib.hid hr
  have HN := Lib.hid hn
  clear hr hn
  cases hb : hasB l n
  · have HB := Lib.hid hb
    have HJ := Lib.hid (show joinL l n = isort (l ++ [n]) by unfold joinL; rw [hb]; rfl)
    clear hb
    go_enter Try.func27, Try.ntmps27
    go_wp2_with fail
    refine (has_calls _ _ _ l n HR.out).mono ?_
    rw [HB.out]; rintro e w' ⟨rfl, rfl⟩
    go_wp2_with fail
    refine (CloneI_calls _ _ _ l HR.out (by omega)).mono ?_
    rintro e w1 ⟨u, rfl, ho, he⟩
    have HO := Lib.hid ho
    have HE := Lib.hid he
    clear ho he
    go_wp2_with (at_builtin; refine wpList_append_Rs kInt rfl (.tmp 12) (.tmp 14) 22 3 rfl tInts w.heap.size _ _ _ [n] (w.heap.size ≤ ·) _ rfl rfl (HO.out.alloc _) (Rs.one_int _ _ _ rfl _ HN.out) (fun _ _ h => h) ?cn ?cb ?cz ?_)
    case cn => intro b hb; have := HE.out.le; (try simp at hb); omega
    case cb => (try simp); omega
    case cz => have := HE.out.le; (try simp); omega
    intro v' w2 ho hg _
    have HO2 := Lib.hid ho
    have HE2 := Lib.hid ((HE.out.alloc (.cells #[.int .i64 n] 3)).grown hg HO.out.from_)
    clear ho hg
    go_wp2_with fail
    refine (Sort_calls _ _ _ _ _ HO2.out (by simp)).mono ?_
    rintro e w3 ⟨rfl, ho, hu⟩
    have HO3 := Lib.hid ho
    have HE3 := Lib.hid (hu.ext HE2.out (fun k hk => HO2.out.from_ _ hk))
    clear ho hu
    go_wp2
    go_ret
    exact ⟨_, rfl, by rw [HJ.out]; exact HO3.out, HE3.out⟩
  · have HB := Lib.hid hb
    have HJ := Lib.hid (show joinL l n = l by unfold joinL; rw [hb]; rfl)
    clear hb
    go_enter Try.func27, Try.ntmps27
    go_wp2_with fail
    refine (has_calls _ _ _ l n HR.out).mono ?_
    rw [HB.out]; rintro e w' ⟨rfl, rfl⟩
    go_wp2_with fail
    refine (CloneI_calls _ _ _ l HR.out (by omega)).mono ?_
    rintro e w1 ⟨u, rfl, ho, he⟩
    have HO := Lib.hid ho
    have HE := Lib.hid he
    clear ho he
    go_wp2
    go_ret
    exact ⟨_, rfl, by rw [HJ.out]; exact HO.out, HE.out⟩
end Go.Proofs.Ythodhajjnjfbfaa
