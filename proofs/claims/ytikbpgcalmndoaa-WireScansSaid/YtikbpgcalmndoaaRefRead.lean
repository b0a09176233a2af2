/-
  spandrelref01.Read.
-/
import Derived.Test.YtikbpgcalmndoaaRefRec
import Derived.Test.YtikbpgcalmndoaaScanNum
set_option linter.unusedVariables false
set_option linter.unusedSimpArgs false
namespace Go.Proofs.Ytikbpgcalmndoaa
open Go.RowKit

theorem rem128 (x : UInt8) : (x.toNat : Int) % 128 = ((x.toNat % 128 : Nat) : Int) := by omega

set_option maxRecDepth 100000 in
set_option maxHeartbeats 4000000 in
theorem Read_calls (w : World) (S : Nat → Prop) (v : Value) (R : List UInt8) (hr : Rs kByte w S v R) :
    Calls Try.prog 50 #[v] w fun e w' => e = .returned (.tuple #[.int .i64 ((rd R).1 : Int), .int .i64 ((rd R).2.1 : Int), .int .i64 ((rd R).2.2 : Int)]) ∧ w = w' := by
  obtain ⟨A, c, rfl, hl, hc, hz, hrow⟩ := hr
  have HR := Lib.hid hrow
  clear hrow hl hc
  go_enter Try.func50, Try.ntmps50
  go_wp2
  go_loop [5, 6] (fun x i => ∃ i' n' : Nat, i = .int .i64 i' ∧ x = .int .i64 n' ∧ i' ≤ R.length ∧ n' < 128 ^ i' ∧ i' ≤ 9 ∧ Hid (rdGo i' n' (R.drop i') = rd R)) (fun _ i => R.length - (intOf i).toNat)
  case atStart => exact ⟨0, 0, rfl, rfl, Nat.zero_le _, by simp, by omega, Lib.hid rfl⟩
  case round =>
    obtain ⟨i, n, rfl, rfl, hi, hn, hi9, HQ⟩ := hrel
    by_cases hlt : i < R.length
    · obtain ⟨ad, rfl, hcell⟩ := HR.out.byte hlt
      have hxb := (R[i]).toNat_lt
      have hdrop : R.drop i = R[i] :: R.drop (i + 1) := List.drop_eq_getElem_cons hlt
      rw [hdrop] at HQ
      clear hdrop
      generalize R[i] = x at hcell hxb HQ
      by_cases hform : i = 0 ∧ x.toNat = 128
      · obtain ⟨rfl, hx⟩ := hform
        have hq := HQ.out
        rw [rdGo_form n x _ hx] at hq
        have HQ' := Lib.hid hq
        clear hq HQ
        rw [add_zero_addr] at hcell
        have hb1 : ((x.toNat : Int) == 128) = true := beq_iff_eq.2 (by omega)
        clear hx
        go_wp2
        go_ret3
        rw [← HQ'.out]
        exact ⟨rfl, rfl⟩
      · by_cases h9 : i = 9
        · have hq := HQ.out
          rw [h9, rdGo_range n x _] at hq
          have HQ' := Lib.hid hq
          have hb9 : ((i : Int) == 9) = true := beq_iff_eq.2 (by omega)
          have hb0 : ((i : Int) == 0) = false := beq_eq_false_iff_ne.2 (by omega)
          clear hq HQ hform h9
          go_wp2
          go_ret3
          rw [← HQ'.out]
          exact ⟨rfl, rfl⟩
        · have hb9 : ((i : Int) == 9) = false := beq_eq_false_iff_ne.2 (by omega)
          have hi8 : i < 9 := by omega
          have hn8 : n < 72057594037927936 := Nat.lt_of_lt_of_le hn (Nat.le_trans (Nat.pow_le_pow_right (by omega) (show i ≤ 8 by omega)) (by decide))
          have hn8' : (n : Int) ≤ 72057594037927935 := by omega
          have hxi : (0 : Int) ≤ (x.toNat : Int) := by omega
          obtain ⟨M, hM⟩ : ∃ M, M = 128 * n + x.toNat % 128 := ⟨_, rfl⟩
          have hM1 : M ≤ 9223372036854775807 := by omega
          have hsum : IntKind.i64.wrap (128 * (n : Int) + (x.toNat : Int) % 128) = (M : Int) := by rw [IntWalk.i64_in _ (by omega)]; omega
          by_cases hx : x.toNat < 128
          · have hq := HQ.out
            rw [rdGo_last i n x _ h9 hx, ← hM] at hq
            have HQ' := Lib.hid hq
            have hxl : (x.toNat : Int) < 128 := by omega
            clear hq HQ h9 hn hn8 hx hM hM1
            have hb128 : ((x.toNat : Int) == 128) = false := beq_eq_false_iff_ne.2 (by omega)
            by_cases hi0 : i = 0
            · subst hi0
              rw [add_zero_addr] at hcell
              clear hform
              go_wp2
              go_ret3
              rw [← HQ'.out]
              exact ⟨rfl, rfl⟩
            · have hb0 : ((i : Int) == 0) = false := beq_eq_false_iff_ne.2 (by omega)
              clear hi0 hform
              go_wp2
              go_ret3
              rw [← HQ'.out]
              exact ⟨rfl, rfl⟩
          · have hq := HQ.out
            rw [rdGo_more i n x _ h9 hform hx, ← hM] at hq
            have HQ' := Lib.hid hq
            have hn' : M < 128 ^ (i + 1) := by rw [Nat.pow_succ, hM]; omega
            have HN' := Lib.hid hn'
            have hxl : (128 : Int) ≤ (x.toNat : Int) := by omega
            clear hq HQ h9 hn hn' hn8 hx hM hM1
            by_cases hi0 : i = 0
            · subst hi0
              rw [add_zero_addr] at hcell
              have hb128 : ((x.toNat : Int) == 128) = false := beq_eq_false_iff_ne.2 (by omega)
              clear hform
              go_wp2
              go_round
              case rel => exact ⟨1, _, rfl, rfl, by omega, HN'.out, by omega, HQ'⟩
              case measure => simp [intOf]; omega
            · have hb0 : ((i : Int) == 0) = false := beq_eq_false_iff_ne.2 (by omega)
              clear hi0 hform
              go_wp2
              go_round
              case rel => exact ⟨i + 1, _, by go_num, rfl, by omega, HN'.out, by omega, HQ'⟩
              case measure => simp [intOf]; omega
    · obtain rfl : i = R.length := by omega
      have hq := HQ.out
      rw [rdGo_end _ _ _ (Nat.le_refl _)] at hq
      have HQ' := Lib.hid hq
      clear hq HQ hlt
      go_wp2
      go_ret3
      rw [← HQ'.out]
      exact ⟨rfl, rfl⟩
end Go.Proofs.Ytikbpgcalmndoaa
