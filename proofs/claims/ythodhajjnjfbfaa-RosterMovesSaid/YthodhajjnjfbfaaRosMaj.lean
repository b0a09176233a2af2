/-
  Who is among voters, majorities, changes: the program's and the reference's.
-/
import Derived.Test.YthodhajjnjfbfaaRosLaw
set_option linter.unusedVariables false
set_option linter.unusedSimpArgs false
namespace Go.Proofs.Ythodhajjnjfbfaa
open Go.RowKit

theorem hasB_idx (l : List Int) (n : Int) : hasB l n = decide (0 ≤ idxI l n) := by
  have := idxI_has l n
  cases h : hasB l n <;> simp [h] at this ⊢ <;> omega

theorem ContainsI_calls (w : World) (S : Nat → Prop) (v : Value) (l : List Int) (n : Int) (hr : Rs kInt w S v l) :
    Calls Try.prog 31 #[v, .int .i64 n] w fun e w' => e = .returned (.bool (hasB l n)) ∧ w = w' := by
  have HR := Lib.hid hr
  clear hr
  have HI := Lib.hid (hasB_idx l n)
  go_enter Try.func31, Try.ntmps31
  go_wp2_with (go_at_call 38; refine (IndexI_calls _ _ _ l n HR.out).mono ?_; rintro e w' ⟨rfl, rfl⟩)
  go_ret
  exact ⟨bool_ret HI.out.symm, rfl⟩

set_option maxHeartbeats 400000 in
theorem IndexS_calls (w : World) (S : Nat → Prop) (v : Value) (l : List Int) (n : Int) (hr : Rs kInt w S v l) :
    Calls Try.prog 53 #[v, .int .i64 n] w fun e w' => e = .returned (.int .i64 (idxI l n)) ∧ w = w' := by
  obtain ⟨A, c, rfl, hl, hc, hz, hrow⟩ := hr
  have HR := Lib.hid hrow
  clear hrow
  go_enter Try.func53, Try.ntmps53
  go_wp2
  go_loop [8] (fun i => ∃ k : Nat, k ≤ l.length ∧ i = .int .i64 k ∧ Hid (idxFrom l n k = idxI l n)) (fun i => l.length - (intOf i).toNat)
  case atStart => exact ⟨0, Nat.zero_le _, rfl, Lib.hid (idxFrom_zero l n)⟩
  case round =>
    obtain ⟨k, hk, rfl, HQ⟩ := hrel
    by_cases hlt : k < l.length
    · obtain ⟨ad, rfl, hcell, _⟩ := HR.out.int hlt
      by_cases he : n = l[k]
      · have hb : (n == l[k]) = true := beq_iff_eq.2 he
        have HE := Lib.hid he
        clear he
        go_wp2
        go_ret
        exact ⟨int_ret (by rw [← HQ.out]; have := HE.out; subst this; rw [idxFrom_hit l k (by assumption)]), rfl⟩
      · have hb : (n == l[k]) = false := beq_eq_false_iff_ne.2 he
        have HE := Lib.hid (idxFrom_next l n k hlt he)
        clear he
        go_wp2
        go_round
        case rel => exact ⟨k + 1, by omega, by go_num, Lib.hid (HE.out ▸ HQ.out)⟩
        case measure => simp [intOf]; omega
    · obtain rfl : k = l.length := by omega
      clear hlt
      go_wp2
      go_ret
      exact ⟨int_ret (by rw [← HQ.out, idxFrom_end]), rfl⟩
theorem ContainsS_calls (w : World) (S : Nat → Prop) (v : Value) (l : List Int) (n : Int) (hr : Rs kInt w S v l) :
    Calls Try.prog 41 #[v, .int .i64 n] w fun e w' => e = .returned (.bool (hasB l n)) ∧ w = w' := by
  have HR := Lib.hid hr
  clear hr
  have HI := Lib.hid (hasB_idx l n)
  go_enter Try.func41, Try.ntmps41
  go_wp2_with (go_at_call 53; refine (IndexS_calls _ _ _ l n HR.out).mono ?_; rintro e w' ⟨rfl, rfl⟩)
  go_ret
  exact ⟨bool_ret HI.out.symm, rfl⟩
theorem has_calls (w : World) (S : Nat → Prop) (v : Value) (l : List Int) (n : Int) (hr : Rs kInt w S v l) :
    Calls Try.prog 34 #[v, .int .i64 n] w fun e w' => e = .returned (.bool (hasB l n)) ∧ w = w' := by
  have HR := Lib.hid hr
  clear hr
  go_enter Try.func34, Try.ntmps34
  go_wp2_with (go_at_call 41; refine (ContainsS_calls _ _ _ l n HR.out).mono ?_; rintro e w' ⟨rfl, rfl⟩)
  go_ret
  exact ⟨rfl, rfl⟩
theorem Votes_calls (w : World) (S : Nat → Prop) (v : Value) (l : List Int) (n : Int) (hr : Rs kInt w S v l) :
    Calls Try.prog 23 #[v, .int .i64 n] w fun e w' => e = .returned (.bool (hasB l n)) ∧ w = w' := by
  have HR := Lib.hid hr
  clear hr
  go_enter Try.func23, Try.ntmps23
  go_wp2_with (go_at_call 34; refine (has_calls _ _ _ l n HR.out).mono ?_; rintro e w' ⟨rfl, rfl⟩)
  go_ret
  exact ⟨rfl, rfl⟩

theorem hasB_take_succ (l : List Int) (n : Int) (k : Nat) (hk : k < l.length) : hasB (l.take (k + 1)) n = (hasB (l.take k) n || decide (n = l[k])) := by
  rw [List.take_succ_eq_append_getElem hk]; unfold hasB; rw [Bool.eq_iff_iff]; simp only [decide_eq_true_eq, List.mem_append, List.mem_singleton, Bool.or_eq_true]
theorem cnt_take_succ (p : Int → Bool) (l : List Int) (k : Nat) (hk : k < l.length) : cnt p (l.take (k + 1)) = cnt p (l.take k) + (if p l[k] = true then 1 else 0) := by
  rw [List.take_succ_eq_append_getElem hk, cnt_append, cnt_cons, cnt_nil]; omega

set_option maxHeartbeats 400000 in
theorem RefVotes_calls (w : World) (S : Nat → Prop) (v : Value) (l : List Int) (n : Int) (hr : Rs kInt w S v l) :
    Calls Try.prog 24 #[v, .int .i64 n] w fun e w' => e = .returned (.bool (hasB l n)) ∧ w = w' := by
  obtain ⟨A, c, rfl, hl, hc, hz, hrow⟩ := hr
  have HR := Lib.hid hrow
  clear hrow
  go_enter Try.func24, Try.ntmps24
  go_wp2
  go_loop [9] (fun i => ∃ k : Nat, k ≤ l.length ∧ i = .int .i64 k ∧ Hid (hasB (l.take k) n = false)) (fun i => l.length - (intOf i).toNat)
  case atStart => exact ⟨0, Nat.zero_le _, rfl, Lib.hid (by simp [hasB])⟩
  case round =>
    obtain ⟨k, hk, rfl, HQ⟩ := hrel
    by_cases hlt : k < l.length
    · obtain ⟨ad, rfl, hcell, _⟩ := HR.out.int hlt
      by_cases he : l[k] = n
      · have hb : (l[k] == n) = true := beq_iff_eq.2 he
        have HE : Hid (hasB l n = true) := Lib.hid (by simp only [hasB, decide_eq_true_eq]; rw [← he]; exact List.getElem_mem _)
        clear he
        go_wp2
        go_ret
        exact ⟨bool_ret HE.out.symm, rfl⟩
      · have hb : (l[k] == n) = false := beq_eq_false_iff_ne.2 he
        have HE : Hid (hasB (l.take (k + 1)) n = false) := Lib.hid (by rw [hasB_take_succ l n k hlt, HQ.out]; simp [Ne.symm he])
        clear he
        go_wp2
        go_round
        case rel => exact ⟨k + 1, by omega, by go_num, HE⟩
        case measure => simp [intOf]; omega
    · obtain rfl : k = l.length := by omega
      have HF : Hid (hasB l n = false) := Lib.hid (by have := HQ.out; rwa [List.take_length] at this)
      clear hlt
      go_wp2
      go_ret
      exact ⟨bool_ret HF.out.symm, rfl⟩

set_option maxHeartbeats 400000 in
theorem lacks_calls (w : World) (S T : Nat → Prop) (u v : Value) (s l : List Int) (hs : Rs kInt w S u s) (hr : Rs kInt w T v l) :
    Calls Try.prog 32 #[u, v] w fun e w' => e = .returned (.int .i64 (lacksN s l : Int)) ∧ w = w' := by
  have HS := Lib.hid hs
  clear hs
  obtain ⟨A, c, rfl, hl, hc, hz, hrow⟩ := hr
  have HR := Lib.hid hrow
  clear hrow
  go_enter Try.func32, Try.ntmps32
  go_wp2
  go_loop [5, 10] (fun n i => ∃ k m : Nat, k ≤ l.length ∧ i = .int .i64 k ∧ n = .int .i64 m ∧ m ≤ k ∧ Hid (m = lacksN s (l.take k))) (fun _ i => l.length - (intOf i).toNat)
  case atStart => exact ⟨0, 0, Nat.zero_le _, rfl, rfl, Nat.le_refl _, Lib.hid (by simp [lacksN, cnt])⟩
  case round =>
    obtain ⟨k, m, hk, rfl, rfl, hm, HQ⟩ := hrel
    by_cases hlt : k < l.length
    · obtain ⟨ad, rfl, hcell, _⟩ := HR.out.int hlt
      have h2 : lacksN s (l.take (k + 1)) = lacksN s (l.take k) + (if (!hasB s l[k]) = true then 1 else 0) := cnt_take_succ _ l k hlt
      by_cases he : hasB s l[k] = true
      · have HE : Hid (m = lacksN s (l.take (k + 1))) := Lib.hid (by rw [h2, he, ← HQ.out]; simp)
        have HB := Lib.hid he
        clear h2 he
        go_wp2_with (go_at_call 34; refine (has_calls _ _ _ s _ HS.out).mono ?_; rw [HB.out]; rintro e w' ⟨rfl, rfl⟩)
        go_round
        case rel => exact ⟨k + 1, m, by omega, by go_num, rfl, by omega, HE⟩
        case measure => simp [intOf]; omega
      · have he : hasB s l[k] = false := by simpa using he
        have HE : Hid (m + 1 = lacksN s (l.take (k + 1))) := Lib.hid (by rw [h2, he, ← HQ.out]; simp)
        have HB := Lib.hid he
        clear h2 he
        go_wp2_with (go_at_call 34; refine (has_calls _ _ _ s _ HS.out).mono ?_; rw [HB.out]; rintro e w' ⟨rfl, rfl⟩)
        go_round
        case rel => exact ⟨k + 1, m + 1, by omega, by go_num, by go_num, by omega, HE⟩
        case measure => simp [intOf]; omega
    · obtain rfl : k = l.length := by omega
      have HF : Hid (m = lacksN s l) := Lib.hid (by have := HQ.out; rwa [List.take_length] at this)
      clear hlt
      go_wp2
      go_ret
      exact ⟨int_ret (by rw [HF.out]), rfl⟩

theorem I64_small {n : Int} (h0 : 0 ≤ n) (h6 : n ≤ 6) : I64 n := ⟨by omega, by omega⟩
set_option maxHeartbeats 400000 in
theorem Majority_calls (w : World) (S T : Nat → Prop) (u v : Value) (voters some : List Int) (hu : Rs kInt w S u voters) (hv : Rs kInt w T v some) :
    Calls Try.prog 13 #[u, v] w fun e w' => e = .returned (.bool (majB voters some)) ∧ w = w' := by
  have HU := Lib.hid hu
  have HV := Lib.hid hv
  clear hv
  obtain ⟨A, c, rfl, hl, hc, hz, hrow⟩ := hu
  have HR := Lib.hid hrow
  clear hrow
  cases hck : chk voters
  · have HC := Lib.hid (chkE_no hck)
    have HM : Hid (majB voters some = false) := Lib.hid (by unfold majB; rw [hck]; rfl)
    clear hck
    go_enter Try.func13, Try.ntmps13
    go_wp2_with (go_at_call 17; refine (Check_calls _ _ _ voters HU.out).mono ?_; rw [HC.out]; rintro e w' ⟨rfl, rfl⟩)
    go_ret
    exact ⟨bool_ret HM.out.symm, rfl⟩
  · have HC := Lib.hid (chkE_yes hck)
    have HM : Hid (majB voters some = decide (voters.length < 2 * cnt (hasB some) voters)) := Lib.hid (by unfold majB; rw [hck]; rfl)
    clear hck
    go_enter Try.func13, Try.ntmps13
    go_wp2_with (go_at_call 17; refine (Check_calls _ _ _ voters HU.out).mono ?_; rw [HC.out]; rintro e w' ⟨rfl, rfl⟩)
    go_loop [5, 13] (fun n i => ∃ k m : Nat, k ≤ voters.length ∧ i = .int .i64 k ∧ n = .int .i64 m ∧ m ≤ k ∧ Hid (m = cnt (hasB some) (voters.take k))) (fun _ i => voters.length - (intOf i).toNat)
    case atStart => exact ⟨0, 0, Nat.zero_le _, rfl, rfl, Nat.le_refl _, Lib.hid (by simp [cnt])⟩
    case round =>
      obtain ⟨k, m, hk, rfl, rfl, hm, HQ⟩ := hrel
      by_cases hlt : k < voters.length
      · obtain ⟨ad, rfl, hcell, _⟩ := HR.out.int hlt
        have h2 := cnt_take_succ (hasB some) voters k hlt
        by_cases he : hasB some voters[k] = true
        · have HE : Hid (m + 1 = cnt (hasB some) (voters.take (k + 1))) := Lib.hid (by rw [h2, he, ← HQ.out]; simp)
          have HB := Lib.hid he
          clear h2 he
          go_wp2_with (go_at_call 31; refine (ContainsI_calls _ _ _ some _ HV.out).mono ?_; rw [HB.out]; rintro e w' ⟨rfl, rfl⟩)
          go_round
          case rel => exact ⟨k + 1, m + 1, by omega, by go_num, by go_num, by omega, HE⟩
          case measure => simp [intOf]; omega
        · have he : hasB some voters[k] = false := by simpa using he
          have HE : Hid (m = cnt (hasB some) (voters.take (k + 1))) := Lib.hid (by rw [h2, he, ← HQ.out]; simp)
          have HB := Lib.hid he
          clear h2 he
          go_wp2_with (go_at_call 31; refine (ContainsI_calls _ _ _ some _ HV.out).mono ?_; rw [HB.out]; rintro e w' ⟨rfl, rfl⟩)
          go_round
          case rel => exact ⟨k + 1, m, by omega, by go_num, rfl, by omega, HE⟩
          case measure => simp [intOf]; omega
      · obtain rfl : k = voters.length := by omega
        have HF : Hid (m = cnt (hasB some) voters) := Lib.hid (by have := HQ.out; rwa [List.take_length] at this)
        clear hlt
        go_wp2
        go_ret
        exact ⟨bool_ret (by rw [HM.out, ← HF.out]; first | rfl | (congr 1; rw [eq_iff_iff]; omega)), rfl⟩

set_option maxHeartbeats 400000 in
theorem RefMajority_calls (w : World) (S T : Nat → Prop) (u v : Value) (voters some : List Int) (hu : Rs kInt w S u voters) (hv : Rs kInt w T v some) :
    Calls Try.prog 14 #[u, v] w fun e w' => e = .returned (.bool (majB voters some)) ∧ w = w' := by
  have HU := Lib.hid hu
  have HV := Lib.hid hv
  clear hv
  obtain ⟨A, c, rfl, hl, hc, hz, hrow⟩ := hu
  have HR := Lib.hid hrow
  clear hrow
  go_enter Try.func14, Try.ntmps14
  go_wp2
  go_loop [5, 6, 11] (fun n m i => ∃ k y : Nat, k ≤ voters.length ∧ i = .int .i64 k ∧ n = .int .i64 y ∧ m = .int .i64 ((k - y : Nat) : Int) ∧ y ≤ k ∧ Hid (y = cnt (hasB some) (voters.take k))) (fun _ _ i => voters.length - (intOf i).toNat)
  case atStart => exact ⟨0, 0, Nat.zero_le _, rfl, rfl, rfl, Nat.le_refl _, Lib.hid (by simp [cnt])⟩
  case round =>
    obtain ⟨k, m, hk, rfl, rfl, rfl, hm, HQ⟩ := hrel
    by_cases hlt : k < voters.length
    · obtain ⟨ad, rfl, hcell, _⟩ := HR.out.int hlt
      have h2 := cnt_take_succ (hasB some) voters k hlt
      by_cases he : hasB some voters[k] = true
      · have HE : Hid (m + 1 = cnt (hasB some) (voters.take (k + 1))) := Lib.hid (by rw [h2, he, ← HQ.out]; simp)
        have HB := Lib.hid he
        clear h2 he
        go_wp2_with (go_at_call 24; refine (RefVotes_calls _ _ _ some _ HV.out).mono ?_; rw [HB.out]; rintro e w' ⟨rfl, rfl⟩)
        go_round
        case rel => exact ⟨k + 1, m + 1, by omega, by go_num, by go_num, by first | rfl | (congr 1; omega), by omega, HE⟩
        case measure => simp [intOf]; omega
      · have he : hasB some voters[k] = false := by simpa using he
        have HE : Hid (m = cnt (hasB some) (voters.take (k + 1))) := Lib.hid (by rw [h2, he, ← HQ.out]; simp)
        have HB := Lib.hid he
        clear h2 he
        go_wp2_with (go_at_call 24; refine (RefVotes_calls _ _ _ some _ HV.out).mono ?_; rw [HB.out]; rintro e w' ⟨rfl, rfl⟩)
        go_round
        case rel => exact ⟨k + 1, m, by omega, by go_num, rfl, by first | rfl | (congr 1; omega), by omega, HE⟩
        case measure => simp [intOf]; omega
    · obtain rfl : k = voters.length := by omega
      have HF : Hid (m = cnt (hasB some) voters) := Lib.hid (by have := HQ.out; rwa [List.take_length] at this)
      clear hlt
      cases hck : chk voters
      · have HC := Lib.hid (chkE_no hck)
        have HM : Hid (majB voters some = false) := Lib.hid (by unfold majB; rw [hck]; rfl)
        clear hck
        go_wp2_with (go_at_call 22; refine (RefCheck_calls _ _ _ voters HU.out).mono ?_; rw [HC.out]; rintro e w' ⟨rfl, rfl⟩)
        go_ret
        exact ⟨bool_ret HM.out.symm, rfl⟩
      · have HC := Lib.hid (chkE_yes hck)
        have HM : Hid (majB voters some = decide (voters.length < 2 * cnt (hasB some) voters)) := Lib.hid (by unfold majB; rw [hck]; rfl)
        clear hck
        go_wp2_with (go_at_call 22; refine (RefCheck_calls _ _ _ voters HU.out).mono ?_; rw [HC.out]; rintro e w' ⟨rfl, rfl⟩)
        go_ret
        exact ⟨bool_ret (by rw [HM.out, ← HF.out]; first | rfl | (congr 1; rw [eq_iff_iff]; omega)), rfl⟩

set_option maxHeartbeats 400000 in
theorem May_calls (w : World) (S T : Nat → Prop) (u v : Value) (old next : List Int) (hu : Rs kInt w S u old) (hv : Rs kInt w T v next) (hz : old.length ≤ 1000000) (hz2 : next.length ≤ 1000000) :
    Calls Try.prog 15 #[u, v] w fun e w' => e = .returned (.int .i64 (mayE old next)) ∧ w = w' := by
  have HU := Lib.hid hu
  have HV := Lib.hid hv
  clear hv hu
  cases hck : chk old
  · have HC := Lib.hid (chkE_no hck)
    have HM : Hid (mayE old next = 100) := Lib.hid (by unfold mayE; rw [hck]; simp)
    clear hck
    go_enter Try.func15, Try.ntmps15
    go_wp2_with (go_at_call 17; refine (Check_calls _ _ _ old HU.out).mono ?_; rw [HC.out]; rintro e w' ⟨rfl, rfl⟩)
    go_ret
    exact ⟨int_ret HM.out.symm, rfl⟩
  · have HC := Lib.hid (chkE_yes hck)
    cases hck2 : chk next
    · have HC2 := Lib.hid (chkE_no hck2)
      have HM : Hid (mayE old next = 100) := Lib.hid (by unfold mayE; rw [hck2]; simp)
      clear hck hck2
      go_enter Try.func15, Try.ntmps15
      go_wp2_with fail
      refine (Check_calls _ _ _ old HU.out).mono ?_; rw [HC.out]; rintro e w' ⟨rfl, rfl⟩
      go_wp2_with fail
      refine (Check_calls _ _ _ next HV.out).mono ?_; rw [HC2.out]; rintro e w' ⟨rfl, rfl⟩
      go_wp2
      go_ret
      exact ⟨int_ret HM.out.symm, rfl⟩
    · have HC2 := Lib.hid (chkE_yes hck2)
      have b1 : lacksN old next ≤ 1000000 := Nat.le_trans (cnt_le _ _) hz2
      have b2 : lacksN next old ≤ 1000000 := Nat.le_trans (cnt_le _ _) hz
      by_cases hone : lacksN old next + lacksN next old = 1
      · have HM : Hid (mayE old next = 0) := Lib.hid (by unfold mayE; rw [hck, hck2, hone]; rfl)
        have hb : (((lacksN old next : Int) + (lacksN next old : Int)) != 1) = false := by simp; omega
        clear hck hck2 hone hz hz2
        go_enter Try.func15, Try.ntmps15
        go_wp2_with fail
        refine (Check_calls _ _ _ old HU.out).mono ?_; rw [HC.out]; rintro e w' ⟨rfl, rfl⟩
        go_wp2_with fail
        refine (Check_calls _ _ _ next HV.out).mono ?_; rw [HC2.out]; rintro e w' ⟨rfl, rfl⟩
        go_wp2_with fail
        refine (lacks_calls _ _ _ _ _ old next HU.out HV.out).mono ?_; rintro e w' ⟨rfl, rfl⟩
        go_wp2_with fail
        refine (lacks_calls _ _ _ _ _ next old HV.out HU.out).mono ?_; rintro e w' ⟨rfl, rfl⟩
        go_wp2
        go_ret
        exact ⟨int_ret HM.out.symm, rfl⟩
      · have HM : Hid (mayE old next = 101) := Lib.hid (by unfold mayE; rw [hck, hck2]; simp [hone])
        have hb : (((lacksN old next : Int) + (lacksN next old : Int)) != 1) = true := bne_iff_ne.2 (by omega)
        clear hck hck2 hone hz hz2
        go_enter Try.func15, Try.ntmps15
        go_wp2_with fail
        refine (Check_calls _ _ _ old HU.out).mono ?_; rw [HC.out]; rintro e w' ⟨rfl, rfl⟩
        go_wp2_with fail
        refine (Check_calls _ _ _ next HV.out).mono ?_; rw [HC2.out]; rintro e w' ⟨rfl, rfl⟩
        go_wp2_with fail
        refine (lacks_calls _ _ _ _ _ old next HU.out HV.out).mono ?_; rintro e w' ⟨rfl, rfl⟩
        go_wp2_with fail
        refine (lacks_calls _ _ _ _ _ next old HV.out HU.out).mono ?_; rintro e w' ⟨rfl, rfl⟩
        go_wp2
        go_ret
        exact ⟨int_ret HM.out.symm, rfl⟩

/-- The first numbers from 0 on. -/
def upto : Nat → List Int
  | 0 => []
  | n + 1 => upto n ++ [(n : Int)]
def unlikeTo (old next : List Int) (k : Nat) : Nat := cnt (fun n => hasB old n != hasB next n) (upto k)
theorem unlikeTo_succ (old next : List Int) (k : Nat) : unlikeTo old next (k + 1) = unlikeTo old next k + (if (hasB old (k : Int) != hasB next (k : Int)) = true then 1 else 0) := by
  show cnt _ (upto k ++ [(k : Int)]) = _
  rw [cnt_append, cnt_cons, cnt_nil, Nat.zero_add]; rfl
theorem unlikeTo_seven (old next : List Int) : unlikeTo old next 7 = unlike old next := cnt_perm (by decide)
theorem unlikeTo_le (old next : List Int) (k : Nat) : unlikeTo old next k ≤ k := by
  induction k with
  | zero => exact Nat.le_refl _
  | succ k ih => rw [unlikeTo_succ]; split <;> omega

set_option maxHeartbeats 1000000 in
theorem RefMay_calls (w : World) (S T : Nat → Prop) (u v : Value) (old next : List Int) (hu : Rs kInt w S u old) (hv : Rs kInt w T v next) :
    Calls Try.prog 16 #[u, v] w fun e w' => e = .returned (.int .i64 (mayE old next)) ∧ w = w' := by
  have HU := Lib.hid hu
  have HV := Lib.hid hv
  clear hv hu
  cases hck : chk old
  · have HC := Lib.hid (chkE_no hck)
    have HM : Hid (mayE old next = 100) := Lib.hid (by unfold mayE; rw [hck]; simp)
    clear hck
    go_enter Try.func16, Try.ntmps16
    go_wp2_with (go_at_call 22; refine (RefCheck_calls _ _ _ old HU.out).mono ?_; rw [HC.out]; rintro e w' ⟨rfl, rfl⟩)
    go_ret
    exact ⟨int_ret HM.out.symm, rfl⟩
  · have HC := Lib.hid (chkE_yes hck)
    cases hck2 : chk next
    · have HC2 := Lib.hid (chkE_no hck2)
      have HM : Hid (mayE old next = 100) := Lib.hid (by unfold mayE; rw [hck2]; simp)
      clear hck hck2
      go_enter Try.func16, Try.ntmps16
      go_wp2_with fail
      refine (RefCheck_calls _ _ _ old HU.out).mono ?_; rw [HC.out]; rintro e w' ⟨rfl, rfl⟩
      go_wp2_with fail
      refine (RefCheck_calls _ _ _ next HV.out).mono ?_; rw [HC2.out]; rintro e w' ⟨rfl, rfl⟩
      go_wp2
      go_ret
      exact ⟨int_ret HM.out.symm, rfl⟩
    · have HC2 := Lib.hid (chkE_yes hck2)
      have HK : Hid (mayE old next = if unlike old next = 1 then 0 else 101) := Lib.hid (by unfold mayE; rw [unlike_eq hck hck2, hck, hck2]; simp)
      clear hck hck2
      go_enter Try.func16, Try.ntmps16
      go_wp2_with fail
      refine (RefCheck_calls _ _ _ old HU.out).mono ?_; rw [HC.out]; rintro e w' ⟨rfl, rfl⟩
      go_wp2_with fail
      refine (RefCheck_calls _ _ _ next HV.out).mono ?_; rw [HC2.out]; rintro e w' ⟨rfl, rfl⟩
      go_wp2
      go_loop [5, 15] (fun n i => ∃ k m : Nat, k ≤ 7 ∧ i = .int .i64 k ∧ n = .int .i64 m ∧ m ≤ k ∧ Hid (m = unlikeTo old next k)) (fun _ i => 7 - (intOf i).toNat)
      case atStart => exact ⟨0, 0, Nat.zero_le _, rfl, rfl, Nat.le_refl _, Lib.hid rfl⟩
      case round =>
        obtain ⟨k, m, hk, rfl, rfl, hm, HQ⟩ := hrel
        by_cases hlt : k < 7
        · have h2 := unlikeTo_succ old next k
          cases h3 : hasB old (k : Int) <;> cases h4 : hasB next (k : Int)
          · have HE : Hid (m = unlikeTo old next (k + 1)) := Lib.hid (by rw [h2, h3, h4, ← HQ.out]; simp)
            have HB := Lib.hid h3
            have HB2 := Lib.hid h4
            clear h2 h3 h4
            go_wp2_with fail
            refine (RefVotes_calls _ _ _ old _ HU.out).mono ?_; rw [HB.out]; rintro e w' ⟨rfl, rfl⟩
            go_wp2_with fail
            refine (RefVotes_calls _ _ _ next _ HV.out).mono ?_; rw [HB2.out]; rintro e w' ⟨rfl, rfl⟩
            go_wp2
            go_round
            case rel => exact ⟨k + 1, m, by omega, by go_num, rfl, by omega, HE⟩
            case measure => simp [intOf]; omega
          · have HE : Hid (m + 1 = unlikeTo old next (k + 1)) := Lib.hid (by rw [h2, h3, h4, ← HQ.out]; simp)
            have HB := Lib.hid h3
            have HB2 := Lib.hid h4
            clear h2 h3 h4
            go_wp2_with fail
            refine (RefVotes_calls _ _ _ old _ HU.out).mono ?_; rw [HB.out]; rintro e w' ⟨rfl, rfl⟩
            go_wp2_with fail
            refine (RefVotes_calls _ _ _ next _ HV.out).mono ?_; rw [HB2.out]; rintro e w' ⟨rfl, rfl⟩
            go_wp2
            go_round
            case rel => exact ⟨k + 1, m + 1, by omega, by go_num, by go_num, by omega, HE⟩
            case measure => simp [intOf]; omega
          · have HE : Hid (m + 1 = unlikeTo old next (k + 1)) := Lib.hid (by rw [h2, h3, h4, ← HQ.out]; simp)
            have HB := Lib.hid h3
            have HB2 := Lib.hid h4
            clear h2 h3 h4
            go_wp2_with fail
            refine (RefVotes_calls _ _ _ old _ HU.out).mono ?_; rw [HB.out]; rintro e w' ⟨rfl, rfl⟩
            go_wp2_with fail
            refine (RefVotes_calls _ _ _ next _ HV.out).mono ?_; rw [HB2.out]; rintro e w' ⟨rfl, rfl⟩
            go_wp2
            go_round
            case rel => exact ⟨k + 1, m + 1, by omega, by go_num, by go_num, by omega, HE⟩
            case measure => simp [intOf]; omega
          · have HE : Hid (m = unlikeTo old next (k + 1)) := Lib.hid (by rw [h2, h3, h4, ← HQ.out]; simp)
            have HB := Lib.hid h3
            have HB2 := Lib.hid h4
            clear h2 h3 h4
            go_wp2_with fail
            refine (RefVotes_calls _ _ _ old _ HU.out).mono ?_; rw [HB.out]; rintro e w' ⟨rfl, rfl⟩
            go_wp2_with fail
            refine (RefVotes_calls _ _ _ next _ HV.out).mono ?_; rw [HB2.out]; rintro e w' ⟨rfl, rfl⟩
            go_wp2
            go_round
            case rel => exact ⟨k + 1, m, by omega, by go_num, rfl, by omega, HE⟩
            case measure => simp [intOf]; omega
        · obtain rfl : k = 7 := by omega
          have hF : m = unlike old next := by rw [HQ.out, unlikeTo_seven]
          by_cases h1 : m = 1
          · have HM : Hid (mayE old next = 0) := Lib.hid (by rw [HK.out, ← hF, if_pos h1])
            have hb : ((m : Int) != 1) = false := by simp; omega
            clear hF h1 hlt
            go_wp2
            go_ret
            exact ⟨int_ret HM.out.symm, rfl⟩
          · have HM : Hid (mayE old next = 101) := Lib.hid (by rw [HK.out, ← hF, if_neg h1])
            have hb : ((m : Int) != 1) = true := bne_iff_ne.2 (by omega)
            clear hF h1 hlt
            go_wp2
            go_ret
            exact ⟨int_ret HM.out.symm, rfl⟩
end Go.Proofs.Ythodhajjnjfbfaa
