/-
  Texts of this claim, put together: Scan, Part, ScanNum, ScanText, ScanTx.
-/
import Derived.Test.YtkedmpppfejofaaZ10
import Derived.Test.YtkedmpppfejofaaZ2
import Derived.Test.YtkedmpppfejofaaZ14
set_option linter.unusedVariables false
set_option linter.unusedSimpArgs false
namespace Go.Proofs.Ytkedmpppfejofaa
open Go.RowKit

/-- A scan lies at block p, its strip at block q, all of it from block B on. -/
def Sc (w : World) (B : Nat → Prop) (p q : Nat) (s : ScS) : Prop :=
  ∃ v, w.heap[p]? = some (.cells #[.pointer (some ⟨q, 0, none⟩), .int .i64 (s.e : Int)] 104 (0, 0)) ∧
    w.heap[q]? = some (.cells #[v, .int .i64 (s.at_ : Int)] 102 (0, 0)) ∧ Rs kByte w (fun b => B b ∧ b ≠ p ∧ b ≠ q) v s.b ∧ p ≠ q ∧ s.ok ∧ B p ∧ B q
theorem Sc.ok_ {w : World} {B : Nat → Prop} {p q : Nat} {s : ScS} (h : Sc w B p q s) : s.ok := let ⟨_, _, _, _, _, h5, _⟩ := h; h5
theorem Sc.drewN {w : World} {B : Nat → Prop} {p q : Nat} {s : ScS} (h : Sc w B p q s) (n : Nat) : Sc (w.drewN n) B p q s :=
  let ⟨v, h1, h2, h3, h4⟩ := h; ⟨v, h1, h2, h3.drewN n, h4⟩
theorem Sc.upd {S : Nat → Prop} {w w' : World} {B : Nat → Prop} {p q : Nat} {s : ScS} (h : Sc w B p q s) (hu : Upd S w w') (hp : ¬ S p) (hq : ¬ S q) (hS : ∀ b, B b → b < w.heap.size → b ≠ p → b ≠ q → ¬ S b) : Sc w' B p q s := by
  obtain ⟨v, h1, h2, h3, h4⟩ := h
  exact ⟨v, blk_upd h1 hu hp, blk_upd h2 hu hq, h3.keep fun b hb hl => hu.block b hl (hS b hb.1 hl hb.2.1 hb.2.2), h4⟩
theorem Sc.ext {w w' : World} {B : Nat → Prop} {p q : Nat} {s : ScS} (h : Sc w B p q s) (he : Ext w w') : Sc w' B p q s := by
  obtain ⟨v, h1, h2, h3, h4⟩ := h
  exact ⟨v, blk_ext h1 he, blk_ext h2 he, h3.ext he, h4⟩

set_option maxHeartbeats 400000 in
theorem made_yes (w : World) (p q : Nat) (hc : w.cell? ⟨p, 0, none⟩ = some (.pointer (some ⟨q, 0, none⟩))) :
    Calls Try.prog 55 #[.pointer (some ⟨p, 0, none⟩)] w fun e w' => e = .returned (.bool true) ∧ w = w' := by
  go_enter Try.func55, Try.ntmps55
  go_wp2
  go_ret
  exact ⟨rfl, rfl⟩
set_option maxHeartbeats 400000 in
theorem made_nil (w : World) : Calls Try.prog 55 #[.pointer none] w fun e w' => e = .returned (.bool false) ∧ w = w' := by
  go_enter Try.func55, Try.ntmps55
  go_wp2
  go_ret
  exact ⟨rfl, rfl⟩
set_option maxHeartbeats 400000 in
theorem made_empty (w : World) (p : Nat) (hc : w.cell? ⟨p, 0, none⟩ = some (.pointer none)) :
    Calls Try.prog 55 #[.pointer (some ⟨p, 0, none⟩)] w fun e w' => e = .returned (.bool false) ∧ w = w' := by
  go_enter Try.func55, Try.ntmps55
  go_wp2
  go_ret
  exact ⟨rfl, rfl⟩

theorem rest_rs {w : World} {S : Nat → Prop} {A : Option Addr} {c k : Nat} {bs : List UInt8} (h : Rs kByte w S (.slice A bs.length c) bs) (hk : k ≤ bs.length) : Rs kByte w S (.slice (restA A c k) (bs.length - k) (c - k)) (bs.drop k) := by
  obtain ⟨A', c', he, hl, hc, hz, hr⟩ := h
  injection he with e1 e2 e3
  subst e1; subst e3
  refine ⟨_, c - k, by rw [List.length_drop], by rw [List.length_drop]; omega, by omega, by rw [List.length_drop]; omega, ?_⟩
  unfold restA
  split
  · exact Row.empty (by rw [List.length_drop]; omega)
  · have := hr.drop k
    simpa [kByte, Kd.scalar] using this

set_option maxHeartbeats 400000 in
theorem rest_calls (w : World) (q : Nat) (A : Option Addr) (n c k : Nat) (hk : k ≤ n) (h0 : w.cell? ⟨q, 0, none⟩ = some (.slice A n c)) (h1 : w.cell? ⟨q, 1, none⟩ = some (.int .i64 (k : Int))) :
    Calls Try.prog 56 #[.pointer (some ⟨q, 0, none⟩)] w fun e w' => e = .returned (.slice (restA A c k) (n - k) (c - k)) ∧ ∃ m, w' = w.drewN m := by
  have h2 : (0 : Int) ≤ (k : Int) := by omega
  have h3 : (k : Int) ≤ (n : Int) := by omega
  go_enter Try.func56, Try.ntmps56
  go_wp2
  go_quiet (fail)
  go_wp2
  all_goals
    go_ret
    exact ⟨by simp [restA, *], nq, rfl⟩

/-- Facts of a scan's cells. -/
theorem Sc.cells {w : World} {B : Nat → Prop} {p q : Nat} {s : ScS} (h : Sc w B p q s) : w.cell? ⟨p, 0, none⟩ = some (.pointer (some ⟨q, 0, none⟩)) ∧ w.cell? ⟨p, 1, none⟩ = some (.int .i64 (s.e : Int)) ∧ w.cell? ⟨q, 1, none⟩ = some (.int .i64 (s.at_ : Int)) ∧
    w.frozen? ⟨p, 1, none⟩ = false ∧ w.frozen? ⟨q, 1, none⟩ = false ∧ ∃ A c, w.cell? ⟨q, 0, none⟩ = some (.slice A s.b.length c) ∧ Rs kByte w (fun b => B b ∧ b ≠ p ∧ b ≠ q) (.slice A s.b.length c) s.b := by
  obtain ⟨v, h1, h2, h3, h4⟩ := h
  have h3' := h3
  obtain ⟨A, c, rfl, _⟩ := h3'
  exact ⟨by rw [cell_blk h1]; rfl, by rw [cell_blk h1]; rfl, by rw [cell_blk h2]; rfl, frozen_blk h1 1, frozen_blk h2 1, A, c, by rw [cell_blk h2]; rfl, h3⟩
theorem Sc.setE {w : World} {B : Nat → Prop} {p q : Nat} {s : ScS} (h : Sc w B p q s) (e : Nat) (he : e ≤ 10) : Sc (w.setCell ⟨p, 1, none⟩ (.int .i64 (e : Int))) B p q ⟨s.b, s.at_, e⟩ := by
  obtain ⟨v, h1, h2, h3, h4, h5, h6⟩ := h
  refine ⟨v, by rw [heap_setCell_same w p 1 _ _ _ h1]; rfl, ?_, h3.seti (fun h => h.2.1 rfl) _, h4, ⟨h5.1, he⟩, h6⟩
  rw [heap_setCell_other w ⟨p, 1, none⟩ q _ (fun e => h4 e.symm)]
  exact h2
theorem Sc.setAt {w : World} {B : Nat → Prop} {p q : Nat} {s : ScS} (h : Sc w B p q s) (k : Nat) (hk : k ≤ s.b.length) : Sc (w.setCell ⟨q, 1, none⟩ (.int .i64 (k : Int))) B p q ⟨s.b, k, s.e⟩ := by
  obtain ⟨v, h1, h2, h3, h4, h5, h6⟩ := h
  refine ⟨v, ?_, by rw [heap_setCell_same w q 1 _ _ _ h2]; rfl, h3.seti (fun h => h.2.2 rfl) _, h4, ⟨hk, h5.2⟩, h6⟩
  rw [heap_setCell_other w ⟨q, 1, none⟩ p _ (fun e => h4 e)]
  exact h1
/-- The blocks of a scan. -/
def two (p q : Nat) (b : Nat) : Prop := b = p ∨ b = q

set_option maxHeartbeats 400000 in
theorem fail_calls (w : World) (B : Nat → Prop) (p q : Nat) (s : ScS) (hs : Sc w B p q s) (e : Nat) (he : e ≤ 10) :
    Calls Try.prog 57 #[.pointer (some ⟨p, 0, none⟩), .int .i64 (e : Int)] w fun r w' => r = .returned (.int .i64 0) ∧ Sc w' B p q ⟨s.b, s.at_, if s.e = 0 then e else s.e⟩ ∧ Upd (two p q) w w' := by
  obtain ⟨c1, c2, c3, c4, c5, A, c, c6, c7⟩ := hs.cells
  have HS := Lib.hid hs
  clear hs c7
  by_cases h0 : s.e = 0
  · rw [h0] at c2
    rw [if_pos h0]
    have H0 := Lib.hid h0
    clear h0
    go_enter Try.func57, Try.ntmps57
    go_wp2_with (go_at_call 55; refine (made_yes _ p q ?_).mono ?_; assumption; rintro e w' ⟨rfl, rfl⟩)
    go_ret
    exact ⟨rfl, HS.out.setE e he, (Upd.refl _ _).set (.inl (.inl rfl)) _⟩
  · rw [if_neg h0]
    have h1 : ((s.e : Int) == 0) = false := beq_eq_false_iff_ne.2 (by omega)
    clear h0
    go_enter Try.func57, Try.ntmps57
    go_wp2_with (go_at_call 55; refine (made_yes _ p q ?_).mono ?_; assumption; rintro e w' ⟨rfl, rfl⟩)
    go_ret
    exact ⟨rfl, HS.out, Upd.refl _ _⟩

set_option maxHeartbeats 400000 in
theorem Err_calls (w : World) (B : Nat → Prop) (p q : Nat) (s : ScS) (hs : Sc w B p q s) :
    Calls Try.prog 46 #[.pointer (some ⟨p, 0, none⟩)] w fun r w' => r = .returned (.int .i64 (s.e : Int)) ∧ w = w' := by
  obtain ⟨c1, c2, _⟩ := hs.cells
  clear hs
  go_enter Try.func46, Try.ntmps46
  go_wp2_with (go_at_call 55; refine (made_yes _ p q ?_).mono ?_; assumption; rintro e w' ⟨rfl, rfl⟩)
  go_ret
  exact ⟨rfl, rfl⟩

set_option maxHeartbeats 400000 in
theorem Left_calls (w : World) (B : Nat → Prop) (p q : Nat) (s : ScS) (hs : Sc w B p q s) :
    Calls Try.prog 58 #[.pointer (some ⟨p, 0, none⟩)] w fun r w' => r = .returned (.int .i64 ((s.b.length - s.at_ : Nat) : Int)) ∧ ∃ m, w' = w.drewN m := by
  obtain ⟨c1, c2, c3, c4, c5, A, c, c6, c7⟩ := hs.cells
  obtain ⟨v, _, _, _, _, ⟨hok, _⟩, _⟩ := hs
  clear c7 c4 c5
  go_enter Try.func58, Try.ntmps58
  go_wp2_with (first | (go_at_call 55; refine (made_yes _ p q ?_).mono ?_; assumption; rintro e w' ⟨rfl, rfl⟩) | (go_at_call 56; refine (rest_calls _ q A s.b.length c s.at_ hok ?_ ?_).mono ?_; assumption; assumption; rintro e w' ⟨rfl, m, rfl⟩))
  go_ret
  exact ⟨by simp, m, rfl⟩
set_option maxHeartbeats 400000 in
theorem Over_calls (w : World) (S : Nat → Prop) (v : Value) (bs : List UInt8) (hr : Rs kByte w S v bs) :
    Calls Try.prog 44 #[v] w fun e w' => ∃ p q, e = .returned (.pointer (some ⟨p, 0, none⟩)) ∧ Sc w' (w.heap.size ≤ ·) p q ⟨bs, 0, 0⟩ ∧ Ext w w' := by
  have HR := Lib.hid hr
  obtain ⟨A, c, rfl, hl, hc, hz, hrow⟩ := hr
  clear hrow
  go_enter Try.func44, Try.ntmps44
  go_wp2_with fail
  refine (Join_calls _ (fun _ => True) _ [bs] (Rs.one_ (heap_alloc_new _ _) trivial ((HR.out.alloc _).mono fun _ _ => trivial)) (by simp [flen]; omega)).mono ?_
  rintro e w1 ⟨u, rfl, ho, he⟩
  have hf : ([bs] : List (List UInt8)).flatten = bs := by simp
  rw [hf] at ho
  have HO := Lib.hid ho
  obtain ⟨A1, c1, rfl, _⟩ := ho.rs
  have HE := Lib.hid (((Ext.refl w).alloc (.cells #[.slice A bs.length c] 56)).trans he)
  clear ho he
  go_wp2_with fail
  go_ret
  have hle := HE.out.le
  refine ⟨w1.heap.size + 1, w1.heap.size, rfl, ⟨_, heap_new _ _ (by simp) _, (Below.heap_alloc _ _ _ (by simp)).trans (heap_new _ _ rfl _), ?_, by omega, ⟨Nat.zero_le _, by show (0 : Nat) ≤ 10; omega⟩, by omega, by omega⟩, (HE.out.alloc _).alloc _⟩
  have h1 := ((HO.out.under.rs).alloc (.cells #[.slice A1 bs.length c1, .int .i64 0] 102)).alloc (.cells #[.pointer (some ⟨w1.heap.size, 0, none⟩), .int .i64 0] 104)
  have h2 := ((HO.out.bound.rs).alloc (.cells #[.slice A1 bs.length c1, .int .i64 0] 102)).alloc (.cells #[.pointer (some ⟨w1.heap.size, 0, none⟩), .int .i64 0] 104)
  exact h2.mono fun b hb => ⟨by have := hb.1; simp at this; omega, by omega, by omega⟩
end Go.Proofs.Ytkedmpppfejofaa
set_option linter.unusedVariables false
set_option linter.unusedSimpArgs false
namespace Go.Proofs.Ytkedmpppfejofaa
end Go.Proofs.Ytkedmpppfejofaa
set_option linter.unusedVariables false
set_option linter.unusedSimpArgs false
namespace Go.Proofs.Ytkedmpppfejofaa
open Go.RowKit

theorem or_low (n x : Nat) (hn : n < 72057594037927936) (hx : x < 128) : bits .or .i64 ((n : Int) * 128) (x : Int) = ((128 * n + x : Nat) : Int) := by
  have hor : 128 * n ||| x = 128 * n + x := by
    rw [show 128 * n = n <<< 7 by rw [Nat.shiftLeft_eq]; omega, Nat.shiftLeft_add_eq_or_of_lt (by omega)]
  show IntKind.i64.wrap ((BitVec.ofInt 64 ((n : Int) * 128) ||| BitVec.ofInt 64 (x : Int)).toNat : Int) = _
  have e : (n : Int) * 128 = ((128 * n : Nat) : Int) := by omega
  rw [e, BitVec.toNat_or, bv_i64 _ (by omega), bv_i64 _ (by omega), hor, IntKind.wrap_i64]
  omega
theorem and127_u8 (x : UInt8) : bits .and .u8 (x.toNat : Int) 127 = ((x.toNat % 128 : Nat) : Int) := by
  have : ∀ k : Fin 256, bits .and .u8 (k.val : Int) 127 = ((k.val % 128 : Nat) : Int) := by decide +kernel
  exact this ⟨x.toNat, x.toNat_lt⟩

theorem rest_row {w : World} {S : Nat → Prop} {A : Option Addr} {c k : Nat} {bs : List UInt8} (h : Rs kByte w S (.slice A bs.length c) bs) (hk : k ≤ bs.length) : Row kByte w S (restA A c k) (bs.drop k) := by
  obtain ⟨A', c', he, _, _, _, hr⟩ := rest_rs h hk
  injection he with e1 _ _
  rw [e1]; exact hr
theorem rdGo_end (i n : Nat) (R : List UInt8) (h : R.length ≤ i) : rdGo i n (R.drop i) = (0, 0, 2) := by rw [List.drop_of_length_le h]; rfl
theorem rdGo_form (n : Nat) (x : UInt8) (l : List UInt8) (hx : x.toNat = 128) : rdGo 0 n (x :: l) = (0, 0, 10) := by unfold rdGo; rw [if_pos ⟨rfl, hx⟩]
theorem rdGo_range (n : Nat) (x : UInt8) (l : List UInt8) : rdGo 9 n (x :: l) = (0, 0, 5) := by unfold rdGo; rw [if_neg (by omega), if_pos rfl]
theorem rdGo_last (i n : Nat) (x : UInt8) (l : List UInt8) (h9 : i ≠ 9) (hx : x.toNat < 128) : rdGo i n (x :: l) = (128 * n + x.toNat % 128, i + 1, 0) := by unfold rdGo; rw [if_neg (by omega), if_neg h9, if_pos hx]
theorem rdGo_more (i n : Nat) (x : UInt8) (l : List UInt8) (h9 : i ≠ 9) (h0 : ¬ (i = 0 ∧ x.toNat = 128)) (hx : ¬ x.toNat < 128) : rdGo i n (x :: l) = rdGo (i + 1) (128 * n + x.toNat % 128) l := by
  conv => lhs; unfold rdGo
  rw [if_neg h0, if_neg h9, if_neg hx]
theorem add_zero_addr (a : Addr) : a.add 0 = a := by unfold Addr.add; simp

theorem step_val (n : Nat) (x : UInt8) (hn : n < 72057594037927936) : bits .or .i64 ((n : Int) * 128) (wrap64 (bits .and .u8 (x.toNat : Int) 127)) = ((128 * n + x.toNat % 128 : Nat) : Int) := by
  rw [and127_u8]
  have : wrap64 ((x.toNat % 128 : Nat) : Int) = ((x.toNat % 128 : Nat) : Int) := by unfold wrap64; omega
  rw [this, or_low n _ hn (by omega)]

set_option maxRecDepth 100000 in
set_option maxHeartbeats 1000000 in
theorem ScNumber_calls (w : World) (B : Nat → Prop) (p q : Nat) (s : ScS) (hs : Sc w B p q s) :
    Calls Try.prog 45 #[.pointer (some ⟨p, 0, none⟩)] w fun e w' => e = .returned (.int .i64 (s.number.1 : Int)) ∧ Sc w' B p q s.number.2 ∧ Upd (two p q) w w' := by
  have HS := Lib.hid hs
  obtain ⟨c1, c2, c3, c4, c5, A, c, c6, c7⟩ := hs.cells
  have hok := hs.ok_.1
  clear hs
  have C7 := Lib.hid c7
  clear c4 c5 c7
  by_cases h0 : s.e = 0
  · have hnum : s.number = ((rd (s.b.drop s.at_)).1, ⟨s.b, s.at_ + (rd (s.b.drop s.at_)).2.1, (rd (s.b.drop s.at_)).2.2⟩) := by unfold ScS.number; rw [if_pos h0]
    rw [h0] at c2
    rw [hnum]
    clear hnum
    have H0 := Lib.hid h0
    clear h0
    go_enter Try.func45, Try.ntmps45
    go_wp2_with (first | (go_at_call 55; refine (made_yes _ p q ?_).mono ?_; assumption; rintro e w' ⟨rfl, rfl⟩) | (go_at_call 56; refine (rest_calls _ q A s.b.length c s.at_ hok ?_ ?_).mono ?_; assumption; assumption; rintro e w' ⟨rfl, m, rfl⟩))
    have hrow := rest_row C7.out hok
    have HSm := Lib.hid (HS.out.drewN m)
    have hRl : (s.b.drop s.at_).length = s.b.length - s.at_ := List.length_drop
    rw [← hRl]
    have hRb : s.at_ + (s.b.drop s.at_).length = s.b.length := by omega
    have hsz : s.b.length ≤ 140737488355328 := by obtain ⟨_, _, _, _, _, hz, _⟩ := C7.out; exact hz
    clear hRl C7 HS
    generalize hRR : s.b.drop s.at_ = R at hrow hRb
    have HRR := Lib.hid hRR
    clear hRR
    have HR := Lib.hid hrow
    clear hrow
    have f1 : w.frozen? ⟨q, 1, none⟩ = false := HSm.out.cells.2.2.2.2.1
    go_loop [3, 22] (fun x i => ∃ i' n' : Nat, i = .int .i64 i' ∧ x = .int .i64 n' ∧ i' ≤ R.length ∧ n' < 128 ^ i' ∧ i' ≤ 9 ∧ Hid (rdGo i' n' (R.drop i') = rd R)) (fun _ i => R.length - (intOf i).toNat)
    case atStart => exact ⟨0, 0, rfl, rfl, Nat.zero_le _, by simp, by omega, Lib.hid rfl⟩
    case round =>
      obtain ⟨i, n, rfl, rfl, hi, hn, hi9, HQ⟩ := hrel
      by_cases hlt : i < R.length
      · obtain ⟨ad, hA, hcell⟩ := HR.out.byte hlt
        rw [hA]
        have hxb := (R[i]).toNat_lt
        have hdrop : R.drop i = R[i] :: R.drop (i + 1) := List.drop_eq_getElem_cons hlt
        rw [hdrop] at HQ
        clear hA hdrop
        generalize R[i] = x at hcell hxb HQ
        by_cases hform : i = 0 ∧ x.toNat = 128
        · obtain ⟨rfl, hx⟩ := hform
          have hq := HQ.out
          rw [rdGo_form n x _ hx] at hq
          have HQ' := Lib.hid hq
          clear hq HQ
          rw [add_zero_addr] at hcell
          have hb1 : ((x.toNat : Int) == 128) = true := beq_iff_eq.2 (by omega)
          clear hx
          go_wp2_with (go_at_call 57; refine (fail_calls _ B p q s HSm.out 10 (by omega)).mono ?_; rintro e w' ⟨rfl, hsc, hup⟩)
          go_ret
          rw [if_pos H0.out] at hsc
          rw [HRR.out, ← HQ'.out]
          exact ⟨rfl, hsc, ((Upd.refl _ _).drewN m).trans hup⟩
        · by_cases h9 : i = 9
          · have hq := HQ.out
            rw [h9, rdGo_range n x _] at hq
            have HQ' := Lib.hid hq
            have hb9 : ((i : Int) == 9) = true := beq_iff_eq.2 (by omega)
            have hb0 : ((i : Int) == 0) = false := beq_eq_false_iff_ne.2 (by omega)
            clear hq HQ hform h9
            go_wp2_with (go_at_call 57; refine (fail_calls _ B p q s HSm.out 5 (by omega)).mono ?_; rintro e w' ⟨rfl, hsc, hup⟩)
            go_ret
            rw [if_pos H0.out] at hsc
            rw [HRR.out, ← HQ'.out]
            exact ⟨rfl, hsc, ((Upd.refl _ _).drewN m).trans hup⟩
          · by_cases hx : x.toNat < 128
            · have hq := HQ.out
              rw [rdGo_last i n x _ h9 hx] at hq
              have HQ' := Lib.hid hq
              have hb9 : ((i : Int) == 9) = false := beq_eq_false_iff_ne.2 (by omega)
              have hi8 : i < 9 := by omega
              have hn8 : n < 72057594037927936 := Nat.lt_of_lt_of_le hn (Nat.le_trans (Nat.pow_le_pow_right (by omega) (show i ≤ 8 by omega)) (by decide))
              clear hq HQ h9 hn
              have HOR := Lib.hid (step_val n x hn8)
              have hn8' : (n : Int) ≤ 72057594037927935 := by omega
              clear hn8
              have hb128 : ((x.toNat : Int) == 128) = false := beq_eq_false_iff_ne.2 (by omega)
              by_cases hi0 : i = 0
              · subst hi0
                rw [add_zero_addr] at hcell
                clear hform
                go_wp2
                go_ret
                rw [HOR.out, HRR.out, ← HQ'.out]
                have hat := HSm.out.setAt (s.at_ + 1) (by omega)
                rw [H0.out] at hat
                exact ⟨rfl, hat, ((Upd.refl _ _).drewN m).set (.inl (.inr rfl)) _⟩
              · have hb0 : ((i : Int) == 0) = false := beq_eq_false_iff_ne.2 (by omega)
                clear hi0 hform
                go_wp2
                go_ret
                rw [HOR.out, HRR.out, ← HQ'.out]
                have hat := HSm.out.setAt (s.at_ + (i + 1)) (by omega)
                rw [H0.out] at hat
                exact ⟨rfl, hat, ((Upd.refl _ _).drewN m).set (.inl (.inr rfl)) _⟩
            · have hq := HQ.out
              rw [rdGo_more i n x _ h9 hform hx] at hq
              have HQ' := Lib.hid hq
              have hb9 : ((i : Int) == 9) = false := beq_eq_false_iff_ne.2 (by omega)
              have hi8 : i < 9 := by omega
              have hn8 : n < 72057594037927936 := Nat.lt_of_lt_of_le hn (Nat.le_trans (Nat.pow_le_pow_right (by omega) (show i ≤ 8 by omega)) (by decide))
              have hn' : 128 * n + x.toNat % 128 < 128 ^ (i + 1) := by rw [Nat.pow_succ]; omega
              have HN' := Lib.hid hn'
              clear hq HQ h9 hn hn'
              have HOR := Lib.hid (step_val n x hn8)
              have hn8' : (n : Int) ≤ 72057594037927935 := by omega
              clear hn8
              by_cases hi0 : i = 0
              · subst hi0
                rw [add_zero_addr] at hcell
                have hb128 : ((x.toNat : Int) == 128) = false := beq_eq_false_iff_ne.2 (by omega)
                clear hform
                go_wp2
                rw [HOR.out]
                go_round
                case rel => exact ⟨1, _, rfl, rfl, by omega, HN'.out, by omega, HQ'⟩
                case measure => simp [intOf]; omega
              · have hb0 : ((i : Int) == 0) = false := beq_eq_false_iff_ne.2 (by omega)
                clear hi0 hform
                go_wp2
                rw [HOR.out]
                go_round
                case rel => exact ⟨i + 1, _, by go_num, rfl, by omega, HN'.out, by omega, HQ'⟩
                case measure => simp [intOf]; omega
      · obtain rfl : i = R.length := by omega
        have hq := HQ.out
        rw [rdGo_end _ _ _ (Nat.le_refl _)] at hq
        have HQ' := Lib.hid hq
        clear hq HQ hlt
        go_wp2_with (go_at_call 57; refine (fail_calls _ B p q s HSm.out 2 (by omega)).mono ?_; rintro e w' ⟨rfl, hsc, hup⟩)
        go_ret
        rw [if_pos H0.out] at hsc
        rw [HRR.out, ← HQ'.out]
        exact ⟨rfl, hsc, ((Upd.refl _ _).drewN m).trans hup⟩
  · have hnum : s.number = (0, s) := by unfold ScS.number; rw [if_neg h0]
    rw [hnum]
    have h1 : ((s.e : Int) != 0) = true := by rw [bne_iff_ne]; omega
    clear h0 hnum
    go_enter Try.func45, Try.ntmps45
    go_wp2_with (go_at_call 55; refine (made_yes _ p q ?_).mono ?_; assumption; rintro e w' ⟨rfl, rfl⟩)
    go_ret
    exact ⟨rfl, HS.out, Upd.refl _ _⟩
end Go.Proofs.Ytkedmpppfejofaa
set_option linter.unusedVariables false
set_option linter.unusedSimpArgs false
namespace Go.Proofs.Ytkedmpppfejofaa
open Go.RowKit

theorem Sc.ext0 {w : World} {B : Nat → Prop} {p q : Nat} {s s' : ScS} (h : Sc w B p q s) (e : s = s') : Sc w B p q s' := e ▸ h

end Go.Proofs.Ytkedmpppfejofaa
set_option linter.unusedVariables false
set_option linter.unusedSimpArgs false
namespace Go.Proofs.Ytkedmpppfejofaa
open Go.RowKit

theorem part_rs {w : World} {S : Nat → Prop} {A : Option Addr} {m c k : Nat} {bs : List UInt8} (h : Rs kByte w S (.slice A m c) bs) (hk : k ≤ bs.length) : Rs kByte w S (.slice A k c) (bs.take k) := by
  obtain ⟨A', c', he, hl, hc, hz, hr⟩ := h
  injection he with e1 e2 e3
  subst e1; subst e3
  have e : (bs.take k).length = k := by rw [List.length_take]; omega
  exact ⟨_, c, by rw [e], by rw [e]; omega, by omega, by rw [e]; omega, hr.take k⟩
theorem max_val (most : Int) : (if most < 0 then (0 : Int) else most) = (most.toNat : Int) := by split <;> omega

set_option maxRecDepth 100000 in
set_option maxHeartbeats 1000000 in
theorem ScEnd_calls (w : World) (B : Nat → Prop) (p q : Nat) (s : ScS) (hs : Sc w B p q s) :
    Calls Try.prog 48 #[.pointer (some ⟨p, 0, none⟩)] w fun e w' => e = .returned (.int .i64 (s.end_.e : Int)) ∧ Sc w' B p q s.end_ ∧ Upd (two p q) w w' := by
  have HS := Lib.hid hs
  have hok := hs.ok_.1
  clear hs
  by_cases h0 : s.e = 0
  · by_cases h1 : s.at_ < s.b.length
    · have hx : s.end_ = ⟨s.b, s.at_, 3⟩ := by unfold ScS.end_; rw [if_pos ⟨h0, h1⟩]
      rw [hx]
      clear hx
      go_enter Try.func48, Try.ntmps48
      go_wp2_with (first | (go_at_call 46; refine (Err_calls _ B p q _ HS.out).mono ?_; rintro e w' ⟨rfl, rfl⟩; rw [h0]) | (go_at_call 58; refine (Left_calls _ B p q _ HS.out).mono ?_; rintro e w' ⟨rfl, m, rfl⟩; have hlt : (0 : Int) < ((s.b.length - s.at_ : Nat) : Int) := by omega))
      refine (fail_calls _ B p q _ (HS.out.drewN m) 3 (by omega)).mono ?_
      rw [if_pos h0]
      rintro e w2 ⟨rfl, hsc2, hup2⟩
      have HSC2 := Lib.hid hsc2
      have HUP2 := Lib.hid (((Upd.refl _ _).drewN m).trans hup2)
      clear hsc2 hup2
      go_wp2_with (first | (go_at_call 46; refine (Err_calls _ B p q _ HSC2.out).mono ?_; rintro e w' ⟨rfl, rfl⟩))
      go_ret
      exact ⟨rfl, HSC2.out, HUP2.out⟩
    · have hx : s.end_ = s := by unfold ScS.end_; rw [if_neg fun h => h1 h.2]
      rw [hx]
      have hnlt : ¬ (0 : Int) < ((s.b.length - s.at_ : Nat) : Int) := by omega
      have HL := Lib.hid hnlt
      clear hx hnlt
      go_enter Try.func48, Try.ntmps48
      go_wp2_with (first | (go_at_call 46; refine (Err_calls _ B p q _ (by first | exact HS.out | exact HS.out.drewN _)).mono ?_; rintro e w' ⟨rfl, rfl⟩; rw [h0]) | (go_at_call 58; refine (Left_calls _ B p q _ HS.out).mono ?_; rintro e w' ⟨rfl, m, rfl⟩; have hlt := HL.out))
      go_ret
      exact ⟨by rw [h0]; rfl, HS.out.drewN m, (Upd.refl _ _).drewN m⟩
  · have hx : s.end_ = s := by unfold ScS.end_; rw [if_neg fun h => h0 h.1]
    rw [hx]
    have he2 : ((s.e : Int) == 0) = false := beq_eq_false_iff_ne.2 (by omega)
    clear hx
    go_enter Try.func48, Try.ntmps48
    go_wp2_with (first | (go_at_call 46; refine (Err_calls _ B p q _ HS.out).mono ?_; rintro e w' ⟨rfl, rfl⟩))
    go_ret
    exact ⟨rfl, HS.out, Upd.refl _ _⟩
end Go.Proofs.Ytkedmpppfejofaa
