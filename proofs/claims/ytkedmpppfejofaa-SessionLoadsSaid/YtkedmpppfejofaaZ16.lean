/-
  Texts of this claim, put together: Arr, RefRec, RefRead, RefScan.
-/
import Derived.Test.YtkedmpppfejofaaZ14
import Derived.Test.YtkedmpppfejofaaZ15
import Derived.Laws.StructEq
import Derived.Test.YtkedmpppfejofaaZ10
import Derived.IntWalk
set_option linter.unusedVariables false
set_option linter.unusedSimpArgs false
namespace Go.Proofs.Ytkedmpppfejofaa
open Go.RowKit
theorem arr4_cells {W : World} {S : Nat → Prop} {ad : Addr} {c : Nat} {y0 y1 y2 y3 : UInt8} (hr : Rs kByte W S (.slice (some ad) 4 c) [y0, y1, y2, y3]) :
    W.cell? ad = some (encB y0) ∧ W.cell? ⟨ad.block, ad.off + 1, none⟩ = some (encB y1) ∧ W.cell? ⟨ad.block, ad.off + 2, none⟩ = some (encB y2) ∧ W.cell? ⟨ad.block, ad.off + 3, none⟩ = some (encB y3) := by
  obtain ⟨_, _, _, _, hrow⟩ := hr.shape
  have h : ∀ j (hj : j < 4), W.cell? (ad.add j) = some (encB ([y0, y1, y2, y3][j])) := fun j hj => by
    obtain ⟨ad', he, hc⟩ := hrow.byte (j := j) hj
    injection he with he; subst he
    exact hc
  refine ⟨?_, h 1 (by omega), h 2 (by omega), h 3 (by omega)⟩
  have := h 0 (by omega)
  rwa [add_zero_addr] at this
end Go.Proofs.Ytkedmpppfejofaa
set_option linter.unusedVariables false
set_option linter.unusedSimpArgs false
namespace Go.Proofs.Ytkedmpppfejofaa
open Go.RowKit

theorem be4_vals (c : Nat) (hc : c < 4294967296) : #[Value.int .u8 ((c : Int) / 16777216), .int .u8 ((c : Int) / 65536 % 256), .int .u8 ((c : Int) / 256 % 256), .int .u8 ((c : Int) % 256)] = #[encB (byt (c / 16777216)), encB (byt (c / 65536)), encB (byt (c / 256)), encB (byt c)] := by
  have e1 : Value.int .u8 ((c : Int) / 16777216) = encB (byt (c / 16777216)) := by rw [← byteval _ (by omega)]; rfl
  have e2 : Value.int .u8 ((c : Int) / 65536 % 256) = encB (byt (c / 65536)) := by unfold encB; rw [byt_toNat]; rfl
  have e3 : Value.int .u8 ((c : Int) / 256 % 256) = encB (byt (c / 256)) := by unfold encB; rw [byt_toNat]; rfl
  have e4 : Value.int .u8 ((c : Int) % 256) = encB (byt c) := by unfold encB; rw [byt_toNat]; rfl
  rw [e1, e2, e3, e4]
end Go.Proofs.Ytkedmpppfejofaa
set_option linter.unusedVariables false
set_option linter.unusedSimpArgs false
namespace Go.Proofs.Ytkedmpppfejofaa
open Go.RowKit

theorem rem128 (x : UInt8) : (x.toNat : Int) % 128 = ((x.toNat % 128 : Nat) : Int) := by omega

set_option maxRecDepth 100000 in
set_option maxHeartbeats 4000000 in
theorem Read_calls (w : World) (S : Nat → Prop) (v : Value) (R : List UInt8) (hr : Rs kByte w S v R) :
    Calls Try.prog 59 #[v] w fun e w' => e = .returned (.tuple #[.int .i64 ((rd R).1 : Int), .int .i64 ((rd R).2.1 : Int), .int .i64 ((rd R).2.2 : Int)]) ∧ w = w' := by
  obtain ⟨A, c, rfl, hl, hc, hz, hrow⟩ := hr
  have HR := Lib.hid hrow
  clear hrow hl hc
  go_enter Try.func59, Try.ntmps59
  go_wp2
  go_loop [5, 6] (fun x i => ∃ i' n' : Nat, i = .int .i64 i' ∧ x = .int .i64 n' ∧ i' ≤ R.length ∧ n' < 128 ^ i' ∧ i' ≤ 9 ∧ Hid (rdGo i' n' (R.drop i') = rd R)) (fun _ i => R.length - (intOf i).toNat)
  case atStart => exact ⟨0, 0, rfl, rfl, Nat.zero_le _, by simp, by omega, Lib.hid rfl⟩
  case round =>
    obtain ⟨i, n, rfl, rfl, hi, hn, hi9, HQ⟩ := hrel
    by_cases hlt : i < R.length
    · obtain ⟨ad, rfl, hcell⟩ := HR.out.byte hlt
      have hxb := (R[i]).toNat_lt
      have hdrop : R.drop i = R[i] :: R.drop (i + 1) := List.drop_eq_getElem_cons hlt
      rw [hdrop] at HQ
      clear hdrop
      generalize R[i] = x at hcell hxb HQ
      by_cases hform : i = 0 ∧ x.toNat = 128
      · obtain ⟨rfl, hx⟩ := hform
        have hq := HQ.out
        rw [rdGo_form n x _ hx] at hq
        have HQ' := Lib.hid hq
        clear hq HQ
        rw [add_zero_addr] at hcell
        have hb1 : ((x.toNat : Int) == 128) = true := beq_iff_eq.2 (by omega)
        clear hx
        go_wp2
        go_ret3
        rw [← HQ'.out]
        exact ⟨rfl, rfl⟩
      · by_cases h9 : i = 9
        · have hq := HQ.out
          rw [h9, rdGo_range n x _] at hq
          have HQ' := Lib.hid hq
          have hb9 : ((i : Int) == 9) = true := beq_iff_eq.2 (by omega)
          have hb0 : ((i : Int) == 0) = false := beq_eq_false_iff_ne.2 (by omega)
          clear hq HQ hform h9
          go_wp2
          go_ret3
          rw [← HQ'.out]
          exact ⟨rfl, rfl⟩
        · have hb9 : ((i : Int) == 9) = false := beq_eq_false_iff_ne.2 (by omega)
          have hi8 : i < 9 := by omega
          have hn8 : n < 72057594037927936 := Nat.lt_of_lt_of_le hn (Nat.le_trans (Nat.pow_le_pow_right (by omega) (show i ≤ 8 by omega)) (by decide))
          have hn8' : (n : Int) ≤ 72057594037927935 := by omega
          have hxi : (0 : Int) ≤ (x.toNat : Int) := by omega
          obtain ⟨M, hM⟩ : ∃ M, M = 128 * n + x.toNat % 128 := ⟨_, rfl⟩
          have hM1 : M ≤ 9223372036854775807 := by omega
          have hsum : IntKind.i64.wrap (128 * (n : Int) + (x.toNat : Int) % 128) = (M : Int) := by rw [IntWalk.i64_in _ (by omega)]; omega
          by_cases hx : x.toNat < 128
          · have hq := HQ.out
            rw [rdGo_last i n x _ h9 hx, ← hM] at hq
            have HQ' := Lib.hid hq
            have hxl : (x.toNat : Int) < 128 := by omega
            clear hq HQ h9 hn hn8 hx hM hM1
            have hb128 : ((x.toNat : Int) == 128) = false := beq_eq_false_iff_ne.2 (by omega)
            by_cases hi0 : i = 0
            · subst hi0
              rw [add_zero_addr] at hcell
              clear hform
              go_wp2
              go_ret3
              rw [← HQ'.out]
              exact ⟨rfl, rfl⟩
            · have hb0 : ((i : Int) == 0) = false := beq_eq_false_iff_ne.2 (by omega)
              clear hi0 hform
              go_wp2
              go_ret3
              rw [← HQ'.out]
              exact ⟨rfl, rfl⟩
          · have hq := HQ.out
            rw [rdGo_more i n x _ h9 hform hx, ← hM] at hq
            have HQ' := Lib.hid hq
            have hn' : M < 128 ^ (i + 1) := by rw [Nat.pow_succ, hM]; omega
            have HN' := Lib.hid hn'
            have hxl : (128 : Int) ≤ (x.toNat : Int) := by omega
            clear hq HQ h9 hn hn' hn8 hx hM hM1
            by_cases hi0 : i = 0
            · subst hi0
              rw [add_zero_addr] at hcell
              have hb128 : ((x.toNat : Int) == 128) = false := beq_eq_false_iff_ne.2 (by omega)
              clear hform
              go_wp2
              go_round
              case rel => exact ⟨1, _, rfl, rfl, by omega, HN'.out, by omega, HQ'⟩
              case measure => simp [intOf]; omega
            · have hb0 : ((i : Int) == 0) = false := beq_eq_false_iff_ne.2 (by omega)
              clear hi0 hform
              go_wp2
              go_round
              case rel => exact ⟨i + 1, _, by go_num, rfl, by omega, HN'.out, by omega, HQ'⟩
              case measure => simp [intOf]; omega
    · obtain rfl : i = R.length := by omega
      have hq := HQ.out
      rw [rdGo_end _ _ _ (Nat.le_refl _)] at hq
      have HQ' := Lib.hid hq
      clear hq HQ hlt
      go_wp2
      go_ret3
      rw [← HQ'.out]
      exact ⟨rfl, rfl⟩
end Go.Proofs.Ytkedmpppfejofaa
set_option linter.unusedVariables false
set_option linter.unusedSimpArgs false
namespace Go.Proofs.Ytkedmpppfejofaa
open Go.RowKit

/-- The reference's scan lies at block r; its bytes in S. -/
def Rc (w : World) (r : Nat) (S : Nat → Prop) (s : ScS) : Prop :=
  ∃ v, w.heap[r]? = some (.cells #[v, .int .i64 (s.at_ : Int), .int .i64 (s.e : Int)] 91 (0, 0)) ∧ Rs kByte w S v s.b ∧ ¬ S r ∧ s.ok
theorem Rc.ok_ {w : World} {r : Nat} {S : Nat → Prop} {s : ScS} (h : Rc w r S s) : s.ok := let ⟨_, _, _, _, h⟩ := h; h
theorem Rc.cells {w : World} {r : Nat} {S : Nat → Prop} {s : ScS} (h : Rc w r S s) : w.cell? ⟨r, 1, none⟩ = some (.int .i64 (s.at_ : Int)) ∧ w.cell? ⟨r, 2, none⟩ = some (.int .i64 (s.e : Int)) ∧
    w.frozen? ⟨r, 1, none⟩ = false ∧ w.frozen? ⟨r, 2, none⟩ = false ∧ ∃ A c, w.cell? ⟨r, 0, none⟩ = some (.slice A s.b.length c) ∧ Rs kByte w S (.slice A s.b.length c) s.b := by
  obtain ⟨v, h1, h2, _⟩ := h
  have h2' := h2
  obtain ⟨A, c, rfl, _⟩ := h2'
  exact ⟨by rw [cell_blk h1]; rfl, by rw [cell_blk h1]; rfl, frozen_blk h1 1, frozen_blk h1 2, A, c, by rw [cell_blk h1]; rfl, h2⟩
theorem Rc.drewN {w : World} {r : Nat} {S : Nat → Prop} {s : ScS} (h : Rc w r S s) (n : Nat) : Rc (w.drewN n) r S s :=
  let ⟨v, h1, h2, h3⟩ := h; ⟨v, h1, h2.drewN n, h3⟩
theorem Rc.setAt {w : World} {r : Nat} {S : Nat → Prop} {s : ScS} (h : Rc w r S s) (k : Nat) (hk : k ≤ s.b.length) : Rc (w.setCell ⟨r, 1, none⟩ (.int .i64 (k : Int))) r S ⟨s.b, k, s.e⟩ := by
  obtain ⟨v, h1, h2, h3, h4⟩ := h
  exact ⟨v, by rw [heap_setCell_same w r 1 _ _ _ h1]; rfl, h2.seti h3 _, h3, hk, h4.2⟩
theorem Rc.setE {w : World} {r : Nat} {S : Nat → Prop} {s : ScS} (h : Rc w r S s) (e : Nat) (he : e ≤ 10) : Rc (w.setCell ⟨r, 2, none⟩ (.int .i64 (e : Int))) r S ⟨s.b, s.at_, e⟩ := by
  obtain ⟨v, h1, h2, h3, h4⟩ := h
  exact ⟨v, by rw [heap_setCell_same w r 2 _ _ _ h1]; rfl, h2.seti h3 _, h3, h4.1, he⟩
theorem Rc.upd {S T : Nat → Prop} {w w' : World} {r : Nat} {s : ScS} (h : Rc w r S s) (hu : Upd T w w') (hr : ¬ T r) (hS : ∀ b, S b → ¬ T b) : Rc w' r S s := by
  obtain ⟨v, h1, h2, h3⟩ := h
  exact ⟨v, blk_upd h1 hu hr, h2.keep fun b hb hl => hu.block b hl (hS b hb), h3⟩

def one (r b : Nat) : Prop := b = r
theorem one_self {r : Nat} : one r r := rfl

set_option maxRecDepth 100000 in
set_option maxHeartbeats 4000000 in
theorem RcNumber_calls (w : World) (r : Nat) (S : Nat → Prop) (s : ScS) (hs : Rc w r S s) :
    Calls Try.prog 49 #[.pointer (some ⟨r, 0, none⟩)] w fun e w' => e = .returned (.int .i64 (s.number.1 : Int)) ∧ Rc w' r S s.number.2 ∧ Upd (one r) w w' := by
  have HS := Lib.hid hs
  obtain ⟨c1, c2, c3, c4, A, c, c5, c6⟩ := hs.cells
  have hok := hs.ok_.1
  have hnb := ScS.ok_number hs.ok_
  clear hs
  by_cases h0 : s.e = 0
  · have hnum : s.number = ((rd (s.b.drop s.at_)).1, ⟨s.b, s.at_ + (rd (s.b.drop s.at_)).2.1, (rd (s.b.drop s.at_)).2.2⟩) := by unfold ScS.number; rw [if_pos h0]
    skip
    rw [hnum] at hnb
    have HN := Lib.hid hnum
    have hrest := c6.from_ (l := s.at_) rfl hok
    have hs1 := slice_from tBytes A s.b.length c .i64 (s.at_ : Int) s.at_ rfl hok
    have hz : s.b.length ≤ 140737488355328 := c6.shape.2.2.2.1
    simp only [partV_eq] at hrest hs1
    have HREST := Lib.hid hrest
    have H0 := Lib.hid h0
    have hzz := (rd_bd (s.b.drop s.at_)).2.2.1
    rw [h0] at c2
    have C6 := Lib.hid c6
    clear hrest hnum c6 h0
    generalize hr : rd (s.b.drop s.at_) = R at hnb HN hzz 
    obtain ⟨n, k, e⟩ := R
    have HR := Lib.hid hr
    simp only [ScS.ok] at hnb hzz 
    have HZ := Lib.hid hzz
    skip
    clear hr hzz
    have HRD := Lib.hid (fun (j : Nat) => show Calls Try.prog 59 #[.slice (restA A c s.at_) (s.b.length - s.at_) (c - s.at_)] (w.drewN j) (fun e' w' => e' = .returned (.tuple #[.int .i64 (n : Int), .int .i64 (k : Int), .int .i64 (e : Int)]) ∧ w' = w.drewN j) from
      (Read_calls _ S _ _ (HREST.out.drewN _)).mono fun _ _ ⟨h1, h2⟩ => ⟨by rw [HR.out] at h1; exact h1, h2.symm⟩)
    go_enter Try.func49, Try.ntmps49
    go_wp2
    go_quiet ((go_at_call 59; exact Calls.quiet_of_same (HRD.out _)))
    go_wp2
    go_ret
    rw [HN.out]
    have h1 := ((HS.out.drewN nq).setAt (s.at_ + k) hnb.1.1).setE e hnb.1.2
    exact ⟨rfl, h1, (((Upd.refl _ _).drewN nq).set (.inl one_self) _).set (.inl one_self) _⟩
  · have hnum : s.number = (0, s) := by unfold ScS.number; rw [if_neg h0]
    have HN := Lib.hid hnum
    have h1 : ((s.e : Int) != 0) = true := by rw [bne_iff_ne]; omega
    clear h0 hnum c6
    go_enter Try.func49, Try.ntmps49
    go_wp2
    go_ret
    rw [HN.out]
    exact ⟨rfl, HS.out, Upd.refl _ _⟩

end Go.Proofs.Ytkedmpppfejofaa
