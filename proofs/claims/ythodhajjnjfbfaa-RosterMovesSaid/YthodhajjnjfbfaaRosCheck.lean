/-
  roster.Check and the reference's.
-/
import Derived.Test.YthodhajjnjfbfaaRosSpec
set_option linter.unusedVariables false
set_option linter.unusedSimpArgs false
namespace Go.Proofs.Ythodhajjnjfbfaa
open Go.RowKit

/-- A check's answer. -/
def chkE (l : List Int) : Int := if chk l = true then 0 else 100
theorem chkE_yes {l : List Int} (h : chk l = true) : chkE l = 0 := if_pos h
theorem chkE_no {l : List Int} (h : chk l = false) : chkE l = 100 := if_neg (by rw [h]; decide)

set_option maxHeartbeats 1000000 in
theorem Check_calls (w : World) (S : Nat → Prop) (v : Value) (l : List Int) (hr : Rs kInt w S v l) :
    Calls Try.prog 17 #[v] w fun e w' => e = .returned (.int .i64 (chkE l)) ∧ w = w' := by
  obtain ⟨A, c, rfl, hl, hc, hz, hrow⟩ := hr
  have HR := Lib.hid hrow
  clear hrow
  go_enter Try.func17, Try.ntmps17
  go_wp2
  go_loop [7] (fun i => ∃ k : Nat, k ≤ l.length ∧ i = .int .i64 k ∧ -1 ≤ prv l k ∧ Hid (risF (prv l k) (l.drop k) = risF (-1) l)) (fun i => l.length - (intOf i).toNat)
  case atStart => exact ⟨0, Nat.zero_le _, rfl, by simp [prv], Lib.hid rfl⟩
  case round =>
    obtain ⟨k, hk, rfl, hp, HQ⟩ := hrel
    by_cases hlt : k < l.length
    · obtain ⟨ad, rfl, hcell, _⟩ := HR.out.int hlt
      have hd : l.drop k = l[k] :: l.drop (k + 1) := List.drop_eq_getElem_cons hlt
      have hq := HQ.out
      rw [hd, risF_cons] at hq
      by_cases hgood : prv l k < l[k] ∧ l[k] ≤ 6
      · have HQ' : Hid (risF (prv l (k + 1)) (l.drop (k + 1)) = risF (-1) l) := Lib.hid (by rw [prv_succ l k hlt, ← hq]; simp [hgood.1, hgood.2])
        have hp' : -1 ≤ prv l (k + 1) := by rw [prv_succ l k hlt]; omega
        have HP := Lib.hid hp'
        obtain ⟨h1, h2⟩ := hgood
        have h3 : decide (l[k] < 0) = false := decide_eq_false (by omega)
        have h4 : decide (7 ≤ l[k]) = false := decide_eq_false (by omega)
        by_cases h0 : k = 0
        · have hs : decide (0 < k) = false := decide_eq_false (by omega)
          clear hd hq hp' h0 h1 h2
          generalize l[k] = x at h3 h4 hcell
          go_wp2
          go_round
          case rel => exact ⟨k + 1, by omega, by go_num, HP.out, HQ'⟩
          case measure => simp [intOf]; omega
        · have h1' : l[k - 1] < l[k] := by
            have : prv l k = l[k - 1] := by
              obtain ⟨j, rfl⟩ : ∃ j, k = j + 1 := ⟨k - 1, by omega⟩
              exact prv_succ l j (by omega)
            omega
          obtain ⟨ad', ha', hcell', _⟩ := HR.out.int (show k - 1 < l.length by omega)
          injection ha' with ha'; subst ha'
          have h5 : decide (l[k] ≤ l[k - 1]) = false := decide_eq_false (by omega)
          have hs : decide (0 < k) = true := decide_eq_true (by omega)
          have hk1 : 0 < k := by omega
          clear hd hq hp' hp h0 h1 h2 h1'
          generalize l[k] = x at h3 h4 h5 hcell
          generalize l[k - 1] = y at h5 hcell'
          go_wp2
          go_round
          case rel => exact ⟨k + 1, by omega, by go_num, HP.out, HQ'⟩
          case measure => simp [intOf]; omega
      · have hno : chk l = false := by
          rw [chk_pos l (by omega), ← hq]
          by_cases h1 : prv l k < l[k]
          · have : ¬ l[k] ≤ 6 := fun h => hgood ⟨h1, h⟩
            simp [this]
          · simp [h1]
        have HN := Lib.hid (chkE_no hno)
        have hgood' : ¬ (prv l k < l[k] ∧ l[k] ≤ 6) := hgood
        clear hd hq hno hgood HQ
        by_cases h3 : l[k] < 0
        · have h3 : decide (l[k] < 0) = true := decide_eq_true (by omega)
          clear hgood' hp
          generalize l[k] = x at h3 hcell
          go_wp2
          go_ret
          exact ⟨int_ret HN.out.symm, rfl⟩
        · have h3' : decide (l[k] < 0) = false := decide_eq_false (by omega)
          by_cases h4 : 7 ≤ l[k]
          · have h4 : decide (7 ≤ l[k]) = true := decide_eq_true (by omega)
            clear hgood' hp h3
            generalize l[k] = x at h3' h4 hcell
            go_wp2
            go_ret
            exact ⟨int_ret HN.out.symm, rfl⟩
          · have h4' : decide (7 ≤ l[k]) = false := decide_eq_false (by omega)
            have h0 : k ≠ 0 := by
              rintro rfl
              simp only [prv] at hgood'
              omega
            have h1' : l[k] ≤ l[k - 1] := by
              have : prv l k = l[k - 1] := by
                obtain ⟨j, rfl⟩ : ∃ j, k = j + 1 := ⟨k - 1, by omega⟩
                exact prv_succ l j (by omega)
              omega
            obtain ⟨ad', ha', hcell', _⟩ := HR.out.int (show k - 1 < l.length by omega)
            injection ha' with ha'; subst ha'
            have h5 : decide (l[k] ≤ l[k - 1]) = true := decide_eq_true (by omega)
            have hs : decide (0 < k) = true := decide_eq_true (by omega)
            have hk1 : 0 < k := by omega
            clear hp h0 h1' hgood' h3 h4
            generalize l[k] = x at h3' h4' h5 hcell
            generalize l[k - 1] = y at h5 hcell'
            go_wp2
            go_ret
            exact ⟨int_ret HN.out.symm, rfl⟩
    · obtain rfl : k = l.length := by omega
      clear hlt
      by_cases h0 : l.length = 0
      · have hno : chkE l = 100 := chkE_no (by rw [List.eq_nil_of_length_eq_zero h0]; rfl)
        have HN := Lib.hid hno
        have hb : ((l.length : Int) == 0) = true := beq_iff_eq.2 (by omega)
        clear hno h0 hp
        go_wp2
        go_ret
        exact ⟨int_ret HN.out.symm, rfl⟩
      · have hyes : chkE l = 0 := chkE_yes (by
          rw [chk_pos l (by omega), ← HQ.out, List.drop_length]; rfl)
        have HN := Lib.hid hyes
        have hb : ((l.length : Int) == 0) = false := beq_eq_false_iff_ne.2 (by omega)
        clear hyes h0 hp
        go_wp2
        go_ret
        exact ⟨int_ret HN.out.symm, rfl⟩

set_option maxHeartbeats 1000000 in
theorem RefCheck_calls (w : World) (S : Nat → Prop) (v : Value) (l : List Int) (hr : Rs kInt w S v l) :
    Calls Try.prog 22 #[v] w fun e w' => e = .returned (.int .i64 (chkE l)) ∧ w = w' := by
  obtain ⟨A, c, rfl, hl, hc, hz, hrow⟩ := hr
  have HR := Lib.hid hrow
  clear hrow
  go_enter Try.func22, Try.ntmps22
  go_wp2
  go_loop [3, 8] (fun last i => ∃ (k : Nat) (a : Int), k ≤ l.length ∧ i = .int .i64 k ∧ last = .int .i64 a ∧ -1 ≤ a ∧ a ≤ 6 ∧ Hid (a < 0 ↔ k = 0) ∧ Hid (risF a (l.drop k) = risF (-1) l)) (fun _ i => l.length - (intOf i).toNat)
  case atStart => exact ⟨0, -1, Nat.zero_le _, rfl, rfl, by omega, by omega, Lib.hid (by omega), Lib.hid rfl⟩
  case round =>
    obtain ⟨k, a, hk, rfl, rfl, ha, ha6, HK, HQ⟩ := hrel
    by_cases hlt : k < l.length
    · obtain ⟨ad, rfl, hcell, _⟩ := HR.out.int hlt
      have hd : l.drop k = l[k] :: l.drop (k + 1) := List.drop_eq_getElem_cons hlt
      have hq := HQ.out
      rw [hd, risF_cons] at hq
      generalize l[k] = x at hcell hq
      clear hd HQ
      by_cases h1 : x ≤ a
      · have hno : chk l = false := by
          rw [chk_pos l (by omega), ← hq]
          have : ¬ a < x := by omega
          simp [this]
        have HN := Lib.hid (chkE_no hno)
        have hb : decide (x ≤ a) = true := decide_eq_true h1
        clear hno hq h1
        go_wp2
        go_ret
        exact ⟨int_ret HN.out.symm, rfl⟩
      · have hb : decide (x ≤ a) = false := decide_eq_false h1
        by_cases h2 : 6 < x
        · have hno : chk l = false := by
            rw [chk_pos l (by omega), ← hq]
            have : ¬ x ≤ 6 := by omega
            simp [this]
          have HN := Lib.hid (chkE_no hno)
          have hb2 : decide (6 < x) = true := decide_eq_true h2
          clear hno hq h1 h2
          go_wp2
          go_ret
          exact ⟨int_ret HN.out.symm, rfl⟩
        · have hb2 : decide (6 < x) = false := decide_eq_false h2
          have hx : 0 ≤ x := by omega
          have hx6 : x ≤ 6 := by omega
          have HQ : Hid (risF x (l.drop (k + 1)) = risF (-1) l) := Lib.hid (by
            rw [← hq]
            have h1' : a < x := by omega
            have h2' : x ≤ 6 := by omega
            simp [h1', h2'])
          clear hq h1 h2
          go_wp2
          go_round
          case rel => exact ⟨k + 1, x, by omega, by go_num, rfl, by omega, hx6, Lib.hid (by omega), HQ⟩
          case measure => simp [intOf]; omega
    · obtain rfl : k = l.length := by omega
      clear hlt
      by_cases h0 : l.length = 0
      · have hno : chkE l = 100 := chkE_no (by rw [List.eq_nil_of_length_eq_zero h0]; rfl)
        have HN := Lib.hid hno
        have hb : decide (a < 0) = true := decide_eq_true (by have := HK.out; omega)
        clear hno h0 ha
        go_wp2
        go_ret
        exact ⟨int_ret HN.out.symm, rfl⟩
      · have hyes : chkE l = 0 := chkE_yes (by
          rw [chk_pos l (by omega), ← HQ.out, List.drop_length]; rfl)
        have HN := Lib.hid hyes
        have hb : decide (a < 0) = false := decide_eq_false (by have := HK.out; omega)
        clear hyes h0 ha
        go_wp2
        go_ret
        exact ⟨int_ret HN.out.symm, rfl⟩
end Go.Proofs.Ythodhajjnjfbfaa
