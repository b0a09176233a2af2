/-
  (*wire.Scan).Number.
-/
import Derived.Test.YtikbpgcalmndoaaScan
import Derived.Test.YtikbpgcalmndoaaNumber
set_option linter.unusedVariables false
set_option linter.unusedSimpArgs false
namespace Go.Proofs.Ytikbpgcalmndoaa
open Go.RowKit

theorem or_low (n x : Nat) (hn : n < 72057594037927936) (hx : x < 128) : bits .or .i64 ((n : Int) * 128) (x : Int) = ((128 * n + x : Nat) : Int) := by
  have hor : 128 * n ||| x = 128 * n + x := by
    rw [show 128 * n = n <<< 7 by rw [Nat.shiftLeft_eq]; omega, Nat.shiftLeft_add_eq_or_of_lt (by omega)]
  show IntKind.i64.wrap ((BitVec.ofInt 64 ((n : Int) * 128) ||| BitVec.ofInt 64 (x : Int)).toNat : Int) = _
  have e : (n : Int) * 128 = ((128 * n : Nat) : Int) := by omega
  rw [e, BitVec.toNat_or, bv_i64 _ (by omega), bv_i64 _ (by omega), hor, IntKind.wrap_i64]
  omega
theorem and127_u8 (x : UInt8) : bits .and .u8 (x.toNat : Int) 127 = ((x.toNat % 128 : Nat) : Int) := by
  have : ∀ k : Fin 256, bits .and .u8 (k.val : Int) 127 = ((k.val % 128 : Nat) : Int) := by decide +kernel
  exact this ⟨x.toNat, x.toNat_lt⟩

theorem rest_row {w : World} {S : Nat → Prop} {A : Option Addr} {c k : Nat} {bs : List UInt8} (h : Rs kByte w S (.slice A bs.length c) bs) (hk : k ≤ bs.length) : Row kByte w S (restA A c k) (bs.drop k) := by
  obtain ⟨A', c', he, _, _, _, hr⟩ := rest_rs h hk
  injection he with e1 _ _
  rw [e1]; exact hr
theorem rdGo_end (i n : Nat) (R : List UInt8) (h : R.length ≤ i) : rdGo i n (R.drop i) = (0, 0, 2) := by rw [List.drop_of_length_le h]; rfl
theorem rdGo_form (n : Nat) (x : UInt8) (l : List UInt8) (hx : x.toNat = 128) : rdGo 0 n (x :: l) = (0, 0, 10) := by unfold rdGo; rw [if_pos ⟨rfl, hx⟩]
theorem rdGo_range (n : Nat) (x : UInt8) (l : List UInt8) : rdGo 9 n (x :: l) = (0, 0, 5) := by unfold rdGo; rw [if_neg (by omega), if_pos rfl]
theorem rdGo_last (i n : Nat) (x : UInt8) (l : List UInt8) (h9 : i ≠ 9) (hx : x.toNat < 128) : rdGo i n (x :: l) = (128 * n + x.toNat % 128, i + 1, 0) := by unfold rdGo; rw [if_neg (by omega), if_neg h9, if_pos hx]
theorem rdGo_more (i n : Nat) (x : UInt8) (l : List UInt8) (h9 : i ≠ 9) (h0 : ¬ (i = 0 ∧ x.toNat = 128)) (hx : ¬ x.toNat < 128) : rdGo i n (x :: l) = rdGo (i + 1) (128 * n + x.toNat % 128) l := by
  conv => lhs; unfold rdGo
  rw [if_neg h0, if_neg h9, if_neg hx]
theorem add_zero_addr (a : Addr) : a.add 0 = a := by unfold Addr.add; simp

theorem step_val (n : Nat) (x : UInt8) (hn : n < 72057594037927936) : bits .or .i64 ((n : Int) * 128) (wrap64 (bits .and .u8 (x.toNat : Int) 127)) = ((128 * n + x.toNat % 128 : Nat) : Int) := by
  rw [and127_u8]
  have : wrap64 ((x.toNat % 128 : Nat) : Int) = ((x.toNat % 128 : Nat) : Int) := by unfold wrap64; omega
  rw [this, or_low n _ hn (by omega)]

set_option maxRecDepth 100000 in
set_option maxHeartbeats 1000000 in
theorem ScNumber_calls (w : World) (B : Nat → Prop) (p q : Nat) (s : ScS) (hs : Sc w B p q s) :
    Calls Try.prog 26 #[.pointer (some ⟨p, 0, none⟩)] w fun e w' => e = .returned (.int .i64 (s.number.1 : Int)) ∧ Sc w' B p q s.number.2 ∧ Upd (two p q) w w' := by
  have HS := Lib.hid hs
  obtain ⟨c1, c2, c3, c4, c5, A, c, c6, c7⟩ := hs.cells
  have hok := hs.ok_.1
  clear hs
  have C7 := Lib.hid c7
  clear c4 c5 c7
  by_cases h0 : s.e = 0
  · have hnum : s.number = ((rd (s.b.drop s.at_)).1, ⟨s.b, s.at_ + (rd (s.b.drop s.at_)).2.1, (rd (s.b.drop s.at_)).2.2⟩) := by unfold ScS.number; rw [if_pos h0]
    rw [h0] at c2
    rw [hnum]
    clear hnum
    have H0 := Lib.hid h0
    clear h0
    go_enter Try.func26, Try.ntmps26
    go_wp2_with (first | (go_at_call 46; refine (made_yes _ p q ?_).mono ?_; assumption; rintro e w' ⟨rfl, rfl⟩) | (go_at_call 47; refine (rest_calls _ q A s.b.length c s.at_ hok ?_ ?_).mono ?_; assumption; assumption; rintro e w' ⟨rfl, m, rfl⟩))
    have hrow := rest_row C7.out hok
    have HSm := Lib.hid (HS.out.drewN m)
    have hRl : (s.b.drop s.at_).length = s.b.length - s.at_ := List.length_drop
    rw [← hRl]
    have hRb : s.at_ + (s.b.drop s.at_).length = s.b.length := by omega
    have hsz : s.b.length ≤ 140737488355328 := by obtain ⟨_, _, _, _, _, hz, _⟩ := C7.out; exact hz
    clear hRl C7 HS
    generalize hRR : s.b.drop s.at_ = R at hrow hRb
    have HRR := Lib.hid hRR
    clear hRR
    have HR := Lib.hid hrow
    clear hrow
    have f1 : w.frozen? ⟨q, 1, none⟩ = false := HSm.out.cells.2.2.2.2.1
    go_loop [3, 22] (fun x i => ∃ i' n' : Nat, i = .int .i64 i' ∧ x = .int .i64 n' ∧ i' ≤ R.length ∧ n' < 128 ^ i' ∧ i' ≤ 9 ∧ Hid (rdGo i' n' (R.drop i') = rd R)) (fun _ i => R.length - (intOf i).toNat)
    case atStart => exact ⟨0, 0, rfl, rfl, Nat.zero_le _, by simp, by omega, Lib.hid rfl⟩
    case round =>
      obtain ⟨i, n, rfl, rfl, hi, hn, hi9, HQ⟩ := hrel
      by_cases hlt : i < R.length
      · obtain ⟨ad, hA, hcell⟩ := HR.out.byte hlt
        rw [hA]
        have hxb := (R[i]).toNat_lt
        have hdrop : R.drop i = R[i] :: R.drop (i + 1) := List.drop_eq_getElem_cons hlt
        rw [hdrop] at HQ
        clear hA hdrop
        generalize R[i] = x at hcell hxb HQ
        by_cases hform : i = 0 ∧ x.toNat = 128
        · obtain ⟨rfl, hx⟩ := hform
          have hq := HQ.out
          rw [rdGo_form n x _ hx] at hq
          have HQ' := Lib.hid hq
          clear hq HQ
          rw [add_zero_addr] at hcell
          have hb1 : ((x.toNat : Int) == 128) = true := beq_iff_eq.2 (by omega)
          clear hx
          go_wp2_with (go_at_call 48; refine (fail_calls _ B p q s HSm.out 10 (by omega)).mono ?_; rintro e w' ⟨rfl, hsc, hup⟩)
          go_ret
          rw [if_pos H0.out] at hsc
          rw [HRR.out, ← HQ'.out]
          exact ⟨rfl, hsc, ((Upd.refl _ _).drewN m).trans hup⟩
        · by_cases h9 : i = 9
          · have hq := HQ.out
            rw [h9, rdGo_range n x _] at hq
            have HQ' := Lib.hid hq
            have hb9 : ((i : Int) == 9) = true := beq_iff_eq.2 (by omega)
            have hb0 : ((i : Int) == 0) = false := beq_eq_false_iff_ne.2 (by omega)
            clear hq HQ hform h9
            go_wp2_with (go_at_call 48; refine (fail_calls _ B p q s HSm.out 5 (by omega)).mono ?_; rintro e w' ⟨rfl, hsc, hup⟩)
            go_ret
            rw [if_pos H0.out] at hsc
            rw [HRR.out, ← HQ'.out]
            exact ⟨rfl, hsc, ((Upd.refl _ _).drewN m).trans hup⟩
          · by_cases hx : x.toNat < 128
            · have hq := HQ.out
              rw [rdGo_last i n x _ h9 hx] at hq
              have HQ' := Lib.hid hq
              have hb9 : ((i : Int) == 9) = false := beq_eq_false_iff_ne.2 (by omega)
              have hi8 : i < 9 := by omega
              have hn8 : n < 72057594037927936 := Nat.lt_of_lt_of_le hn (Nat.le_trans (Nat.pow_le_pow_right (by omega) (show i ≤ 8 by omega)) (by decide))
              clear hq HQ h9 hn
              have HOR := Lib.hid (step_val n x hn8)
              have hn8' : (n : Int) ≤ 72057594037927935 := by omega
              clear hn8
              have hb128 : ((x.toNat : Int) == 128) = false := beq_eq_false_iff_ne.2 (by omega)
              by_cases hi0 : i = 0
              · subst hi0
                rw [add_zero_addr] at hcell
                clear hform
                go_wp2
                go_ret
                rw [HOR.out, HRR.out, ← HQ'.out]
                have hat := HSm.out.setAt (s.at_ + 1) (by omega)
                rw [H0.out] at hat
                exact ⟨rfl, hat, ((Upd.refl _ _).drewN m).set (.inl (.inr rfl)) _⟩
              · have hb0 : ((i : Int) == 0) = false := beq_eq_false_iff_ne.2 (by omega)
                clear hi0 hform
                go_wp2
                go_ret
                rw [HOR.out, HRR.out, ← HQ'.out]
                have hat := HSm.out.setAt (s.at_ + (i + 1)) (by omega)
                rw [H0.out] at hat
                exact ⟨rfl, hat, ((Upd.refl _ _).drewN m).set (.inl (.inr rfl)) _⟩
            · have hq := HQ.out
              rw [rdGo_more i n x _ h9 hform hx] at hq
              have HQ' := Lib.hid hq
              have hb9 : ((i : Int) == 9) = false := beq_eq_false_iff_ne.2 (by omega)
              have hi8 : i < 9 := by omega
              have hn8 : n < 72057594037927936 := Nat.lt_of_lt_of_le hn (Nat.le_trans (Nat.pow_le_pow_right (by omega) (show i ≤ 8 by omega)) (by decide))
              have hn' : 128 * n + x.toNat % 128 < 128 ^ (i + 1) := by rw [Nat.pow_succ]; omega
              have HN' := Lib.hid hn'
              clear hq HQ h9 hn hn'
              have HOR := Lib.hid (step_val n x hn8)
              have hn8' : (n : Int) ≤ 72057594037927935 := by omega
              clear hn8
              by_cases hi0 : i = 0
              · subst hi0
                rw [add_zero_addr] at hcell
                have hb128 : ((x.toNat : Int) == 128) = false := beq_eq_false_iff_ne.2 (by omega)
                clear hform
                go_wp2
                rw [HOR.out]
                go_round
                case rel => exact ⟨1, _, rfl, rfl, by omega, HN'.out, by omega, HQ'⟩
                case measure => simp [intOf]; omega
              · have hb0 : ((i : Int) == 0) = false := beq_eq_false_iff_ne.2 (by omega)
                clear hi0 hform
                go_wp2
                rw [HOR.out]
                go_round
                case rel => exact ⟨i + 1, _, by go_num, rfl, by omega, HN'.out, by omega, HQ'⟩
                case measure => simp [intOf]; omega
      · obtain rfl : i = R.length := by omega
        have hq := HQ.out
        rw [rdGo_end _ _ _ (Nat.le_refl _)] at hq
        have HQ' := Lib.hid hq
        clear hq HQ hlt
        go_wp2_with (go_at_call 48; refine (fail_calls _ B p q s HSm.out 2 (by omega)).mono ?_; rintro e w' ⟨rfl, hsc, hup⟩)
        go_ret
        rw [if_pos H0.out] at hsc
        rw [HRR.out, ← HQ'.out]
        exact ⟨rfl, hsc, ((Upd.refl _ _).drewN m).trans hup⟩
  · have hnum : s.number = (0, s) := by unfold ScS.number; rw [if_neg h0]
    rw [hnum]
    have h1 : ((s.e : Int) != 0) = true := by rw [bne_iff_ne]; omega
    clear h0 hnum
    go_enter Try.func26, Try.ntmps26
    go_wp2_with (go_at_call 46; refine (made_yes _ p q ?_).mono ?_; assumption; rintro e w' ⟨rfl, rfl⟩)
    go_ret
    exact ⟨rfl, HS.out, Upd.refl _ _⟩
end Go.Proofs.Ytikbpgcalmndoaa
