/-
  spandrellaw10: light, awake; the walks of RosterMajorities, RosterChanges, RosterChecks, RosterAgreed.
-/
import Derived.Test.YthodhajjnjfbfaaRosRef
set_option linter.unusedVariables false
set_option linter.unusedSimpArgs false
namespace Go.Proofs.Ythodhajjnjfbfaa
open Go.RowKit

def lightB (ls : List (List Int)) : Bool := ls.all (fun x => decide (x.length ≤ 300))
theorem lightB_take_succ (ls : List (List Int)) (k : Nat) (hk : k < ls.length) : lightB (ls.take (k + 1)) = (lightB (ls.take k) && decide (ls[k].length ≤ 300)) := by
  unfold lightB; rw [List.take_succ_eq_append_getElem hk, List.all_append]; simp
theorem lightB_mem {ls : List (List Int)} (h : lightB ls = true) {x : List Int} (hx : x ∈ ls) : x.length ≤ 300 := by
  unfold lightB at h; rw [List.all_eq_true] at h; simpa using h x hx

set_option maxHeartbeats 400000 in
theorem light_calls (w : World) (S : Nat → Prop) (v : Value) (ls : List (List Int)) (hr : Rs (kSlice kInt) w S v ls) :
    Calls Try.prog 11 #[v] w fun e w' => e = .returned (.bool (lightB ls)) ∧ w = w' := by
  obtain ⟨A, c, rfl, hl, hc, hz, hrow⟩ := hr
  have HR := Lib.hid hrow
  clear hrow
  go_enter Try.func11, Try.ntmps11
  go_wp2
  go_loop [7] (fun i => ∃ k : Nat, k ≤ ls.length ∧ i = .int .i64 k ∧ Hid (lightB (ls.take k) = true)) (fun i => ls.length - (intOf i).toNat)
  case atStart => exact ⟨0, Nat.zero_le _, rfl, Lib.hid rfl⟩
  case round =>
    obtain ⟨k, hk, rfl, HQ⟩ := hrel
    by_cases hlt : k < ls.length
    · obtain ⟨ad, u, rfl, hcell, hu⟩ := HR.out.slice hlt
      obtain ⟨A1, c1, rfl, hl1, hc1, hz1, _⟩ := hu
      have HS := Lib.hid (lightB_take_succ ls k hlt)
      by_cases hg : ls[k].length ≤ 300
      · have HF := Lib.hid (show lightB (ls.take (k + 1)) = true by rw [HS.out, HQ.out, decide_eq_true hg]; rfl)
        go_wp2
        go_round
        case rel => exact ⟨k + 1, by omega, by go_num, HF⟩
        case measure => simp [intOf]; omega
      · have HF := Lib.hid (show lightB ls = false by
          unfold lightB
          rw [List.all_eq_false]
          exact ⟨ls[k], List.getElem_mem _, by simpa using hg⟩)
        have hg' : 300 < ls[k].length := by omega
        clear hg
        go_wp2
        go_ret
        exact ⟨bool_ret HF.out.symm, rfl⟩
    · obtain rfl : k = ls.length := by omega
      have HF := Lib.hid (show lightB ls = true by have := HQ.out; rwa [List.take_length] at this)
      clear hlt
      go_wp2
      go_ret
      exact ⟨bool_ret HF.out.symm, rfl⟩

theorem smallI {l : List Int} (h : l.all (fun x => decide (0 ≤ x) && decide (x ≤ 1000000)) = true) : ∀ x ∈ l, I64 x := by
  intro x hx
  rw [List.all_eq_true] at h
  have := h x hx
  simp only [Bool.and_eq_true, decide_eq_true_eq] at this
  exact ⟨by omega, by omega⟩

set_option maxHeartbeats 1000000 in
theorem awake_calls (w : World) :
    Calls Try.prog 12 #[] w fun e w' => e = .returned (.bool true) ∧ Ext w w' := by
  have HM := Lib.hid (show majB [0, 1, 2] [1, 2] = true by decide)
  have HY := Lib.hid (show mayE [0, 1, 2] [0, 1, 3] = 101 by decide)
  have HG := Lib.hid (show agr [0, 1, 2, 4] [7, 3, 5, 9, 4] = 4 by decide)
  go_enter Try.func12, Try.ntmps12
  go_wp2_with fail
  refine (Majority_calls _ _ _ _ _ [0, 1, 2] [1, 2] ((Rs.ints w w.heap.size 3 rfl [0, 1, 2] (smallI (by decide)) (by decide)).alloc _) (Rs.ints _ _ 3 (by simp) [1, 2] (smallI (by decide)) (by decide))).mono ?_
  rw [HM.out]
  rintro e w' ⟨rfl, hw1⟩
  have HE1 := Lib.hid (hw1 ▸ ((Ext.refl w).alloc _).alloc _ : Ext w w')
  clear hw1
  go_wp2_with fail
  refine (May_calls _ _ _ _ _ [0, 1, 2] [0, 1, 3] ((Rs.ints _ _ 3 rfl [0, 1, 2] (smallI (by decide)) (by decide)).alloc _) (Rs.ints _ _ 3 (by simp) [0, 1, 3] (smallI (by decide)) (by decide)) (by decide) (by decide)).mono ?_
  rw [HY.out]
  rintro e w2 ⟨rfl, hw2⟩
  have HE2 := Lib.hid (hw2 ▸ (HE1.out.alloc _).alloc _ : Ext w w2)
  clear hw2 HE1
  go_wp2_with fail
  refine (Agreed_calls _ _ _ _ _ [0, 1, 2, 4] [7, 3, 5, 9, 4] ((Rs.ints _ _ 3 rfl [0, 1, 2, 4] (smallI (by decide)) (by decide)).alloc _) (Rs.ints _ _ 3 (by simp) [7, 3, 5, 9, 4] (smallI (by decide)) (by decide))).mono ?_
  rw [HG.out]
  rintro e w3 ⟨rfl, he3⟩
  have HE3 := Lib.hid (((HE2.out.alloc _).alloc _).trans he3)
  clear he3 HE2
  go_wp2
  go_ret
  exact ⟨rfl, HE3.out⟩
end Go.Proofs.Ythodhajjnjfbfaa
