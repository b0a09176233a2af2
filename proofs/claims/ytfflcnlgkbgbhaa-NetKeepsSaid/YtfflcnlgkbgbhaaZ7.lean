/-
  Texts of this claim, put together: Scan, Part, ScanNum, Arr, RefRec, RefRead, ScanText, ScanTx.
-/
import Derived.Test.YtfflcnlgkbgbhaaZ6
import Derived.Test.YtfflcnlgkbgbhaaZ4
import Derived.Test.YtfflcnlgkbgbhaaZ2
import Derived.Laws.StructEq
import Derived.Test.YtfflcnlgkbgbhaaZ3
import Derived.IntWalk
set_option linter.unusedVariables false
set_option linter.unusedSimpArgs false
namespace Go.Proofs.Ytfflcnlgkbgbhaa
open Go.RowKit

/-- A scan lies at block p, its strip at block q, all of it from block B on. -/
def Sc (w : World) (B : Nat → Prop) (p q : Nat) (s : ScS) : Prop :=
  ∃ v, w.heap[p]? = some (.cells #[.pointer (some ⟨q, 0, none⟩), .int .i64 (s.e : Int)] 118 (0, 0)) ∧
    w.heap[q]? = some (.cells #[v, .int .i64 (s.at_ : Int)] 120 (0, 0)) ∧ Rs kByte w (fun b => B b ∧ b ≠ p ∧ b ≠ q) v s.b ∧ p ≠ q ∧ s.ok ∧ B p ∧ B q
theorem Sc.ok_ {w : World} {B : Nat → Prop} {p q : Nat} {s : ScS} (h : Sc w B p q s) : s.ok := let ⟨_, _, _, _, _, h5, _⟩ := h; h5
theorem Sc.drewN {w : World} {B : Nat → Prop} {p q : Nat} {s : ScS} (h : Sc w B p q s) (n : Nat) : Sc (w.drewN n) B p q s :=
  let ⟨v, h1, h2, h3, h4⟩ := h; ⟨v, h1, h2, h3.drewN n, h4⟩
theorem Sc.upd {S : Nat → Prop} {w w' : World} {B : Nat → Prop} {p q : Nat} {s : ScS} (h : Sc w B p q s) (hu : Upd S w w') (hp : ¬ S p) (hq : ¬ S q) (hS : ∀ b, B b → b < w.heap.size → b ≠ p → b ≠ q → ¬ S b) : Sc w' B p q s := by
  obtain ⟨v, h1, h2, h3, h4⟩ := h
  exact ⟨v, blk_upd h1 hu hp, blk_upd h2 hu hq, h3.keep fun b hb hl => hu.block b hl (hS b hb.1 hl hb.2.1 hb.2.2), h4⟩
theorem Sc.ext {w w' : World} {B : Nat → Prop} {p q : Nat} {s : ScS} (h : Sc w B p q s) (he : Ext w w') : Sc w' B p q s := by
  obtain ⟨v, h1, h2, h3, h4⟩ := h
  exact ⟨v, blk_ext h1 he, blk_ext h2 he, h3.ext he, h4⟩

set_option maxHeartbeats 400000 in
theorem made_yes (w : World) (p q : Nat) (hc : w.cell? ⟨p, 0, none⟩ = some (.pointer (some ⟨q, 0, none⟩))) :
    Calls Try.prog 83 #[.pointer (some ⟨p, 0, none⟩)] w fun e w' => e = .returned (.bool true) ∧ w = w' := by
  go_enter Try.func83, Try.ntmps83
  go_wp2
  go_ret
  exact ⟨rfl, rfl⟩
set_option maxHeartbeats 400000 in
theorem made_nil (w : World) : Calls Try.prog 83 #[.pointer none] w fun e w' => e = .returned (.bool false) ∧ w = w' := by
  go_enter Try.func83, Try.ntmps83
  go_wp2
  go_ret
  exact ⟨rfl, rfl⟩
set_option maxHeartbeats 400000 in
theorem made_empty (w : World) (p : Nat) (hc : w.cell? ⟨p, 0, none⟩ = some (.pointer none)) :
    Calls Try.prog 83 #[.pointer (some ⟨p, 0, none⟩)] w fun e w' => e = .returned (.bool false) ∧ w = w' := by
  go_enter Try.func83, Try.ntmps83
  go_wp2
  go_ret
  exact ⟨rfl, rfl⟩

theorem rest_rs {w : World} {S : Nat → Prop} {A : Option Addr} {c k : Nat} {bs : List UInt8} (h : Rs kByte w S (.slice A bs.length c) bs) (hk : k ≤ bs.length) : Rs kByte w S (.slice (restA A c k) (bs.length - k) (c - k)) (bs.drop k) := by
  obtain ⟨A', c', he, hl, hc, hz, hr⟩ := h
  injection he with e1 e2 e3
  subst e1; subst e3
  refine ⟨_, c - k, by rw [List.length_drop], by rw [List.length_drop]; omega, by omega, by rw [List.length_drop]; omega, ?_⟩
  unfold restA
  split
  · exact Row.empty (by rw [List.length_drop]; omega)
  · have := hr.drop k
    simpa [kByte, Kd.scalar] using this

set_option maxHeartbeats 400000 in
theorem rest_calls (w : World) (q : Nat) (A : Option Addr) (n c k : Nat) (hk : k ≤ n) (h0 : w.cell? ⟨q, 0, none⟩ = some (.slice A n c)) (h1 : w.cell? ⟨q, 1, none⟩ = some (.int .i64 (k : Int))) :
    Calls Try.prog 84 #[.pointer (some ⟨q, 0, none⟩)] w fun e w' => e = .returned (.slice (restA A c k) (n - k) (c - k)) ∧ ∃ m, w' = w.drewN m := by
  have h2 : (0 : Int) ≤ (k : Int) := by omega
  have h3 : (k : Int) ≤ (n : Int) := by omega
  go_enter Try.func84, Try.ntmps84
  go_wp2
  go_quiet (fail)
  go_wp2
  all_goals
    go_ret
    exact ⟨by simp [restA, *], nq, rfl⟩

/-- Facts of a scan's cells. -/
theorem Sc.cells {w : World} {B : Nat → Prop} {p q : Nat} {s : ScS} (h : Sc w B p q s) : w.cell? ⟨p, 0, none⟩ = some (.pointer (some ⟨q, 0, none⟩)) ∧ w.cell? ⟨p, 1, none⟩ = some (.int .i64 (s.e : Int)) ∧ w.cell? ⟨q, 1, none⟩ = some (.int .i64 (s.at_ : Int)) ∧
    w.frozen? ⟨p, 1, none⟩ = false ∧ w.frozen? ⟨q, 1, none⟩ = false ∧ ∃ A c, w.cell? ⟨q, 0, none⟩ = some (.slice A s.b.length c) ∧ Rs kByte w (fun b => B b ∧ b ≠ p ∧ b ≠ q) (.slice A s.b.length c) s.b := by
  obtain ⟨v, h1, h2, h3, h4⟩ := h
  have h3' := h3
  obtain ⟨A, c, rfl, _⟩ := h3'
  exact ⟨by rw [cell_blk h1]; rfl, by rw [cell_blk h1]; rfl, by rw [cell_blk h2]; rfl, frozen_blk h1 1, frozen_blk h2 1, A, c, by rw [cell_blk h2]; rfl, h3⟩
theorem Sc.setE {w : World} {B : Nat → Prop} {p q : Nat} {s : ScS} (h : Sc w B p q s) (e : Nat) (he : e ≤ 10) : Sc (w.setCell ⟨p, 1, none⟩ (.int .i64 (e : Int))) B p q ⟨s.b, s.at_, e⟩ := by
  obtain ⟨v, h1, h2, h3, h4, h5, h6⟩ := h
  refine ⟨v, by rw [heap_setCell_same w p 1 _ _ _ h1]; rfl, ?_, h3.seti (fun h => h.2.1 rfl) _, h4, ⟨h5.1, he⟩, h6⟩
  rw [heap_setCell_other w ⟨p, 1, none⟩ q _ (fun e => h4 e.symm)]
  exact h2
theorem Sc.setAt {w : World} {B : Nat → Prop} {p q : Nat} {s : ScS} (h : Sc w B p q s) (k : Nat) (hk : k ≤ s.b.length) : Sc (w.setCell ⟨q, 1, none⟩ (.int .i64 (k : Int))) B p q ⟨s.b, k, s.e⟩ := by
  obtain ⟨v, h1, h2, h3, h4, h5, h6⟩ := h
  refine ⟨v, ?_, by rw [heap_setCell_same w q 1 _ _ _ h2]; rfl, h3.seti (fun h => h.2.2 rfl) _, h4, ⟨hk, h5.2⟩, h6⟩
  rw [heap_setCell_other w ⟨q, 1, none⟩ p _ (fun e => h4 e)]
  exact h1
/-- The blocks of a scan. -/
def two (p q : Nat) (b : Nat) : Prop := b = p ∨ b = q

set_option maxHeartbeats 400000 in
theorem fail_calls (w : World) (B : Nat → Prop) (p q : Nat) (s : ScS) (hs : Sc w B p q s) (e : Nat) (he : e ≤ 10) :
    Calls Try.prog 85 #[.pointer (some ⟨p, 0, none⟩), .int .i64 (e : Int)] w fun r w' => r = .returned (.int .i64 0) ∧ Sc w' B p q ⟨s.b, s.at_, if s.e = 0 then e else s.e⟩ ∧ Upd (two p q) w w' := by
  obtain ⟨c1, c2, c3, c4, c5, A, c, c6, c7⟩ := hs.cells
  have HS := Lib.hid hs
  clear hs c7
  by_cases h0 : s.e = 0
  · rw [h0] at c2
    rw [if_pos h0]
    have H0 := Lib.hid h0
    clear h0
    go_enter Try.func85, Try.ntmps85
    go_wp2_with (go_at_call 83; refine (made_yes _ p q ?_).mono ?_; assumption; rintro e w' ⟨rfl, rfl⟩)
    go_ret
    exact ⟨rfl, HS.out.setE e he, (Upd.refl _ _).set (.inl (.inl rfl)) _⟩
  · rw [if_neg h0]
    have h1 : ((s.e : Int) == 0) = false := beq_eq_false_iff_ne.2 (by omega)
    clear h0
    go_enter Try.func85, Try.ntmps85
    go_wp2_with (go_at_call 83; refine (made_yes _ p q ?_).mono ?_; assumption; rintro e w' ⟨rfl, rfl⟩)
    go_ret
    exact ⟨rfl, HS.out, Upd.refl _ _⟩

set_option maxHeartbeats 400000 in
theorem Err_calls (w : World) (B : Nat → Prop) (p q : Nat) (s : ScS) (hs : Sc w B p q s) :
    Calls Try.prog 78 #[.pointer (some ⟨p, 0, none⟩)] w fun r w' => r = .returned (.int .i64 (s.e : Int)) ∧ w = w' := by
  obtain ⟨c1, c2, _⟩ := hs.cells
  clear hs
  go_enter Try.func78, Try.ntmps78
  go_wp2_with (go_at_call 83; refine (made_yes _ p q ?_).mono ?_; assumption; rintro e w' ⟨rfl, rfl⟩)
  go_ret
  exact ⟨rfl, rfl⟩

set_option maxHeartbeats 400000 in
theorem Left_calls (w : World) (B : Nat → Prop) (p q : Nat) (s : ScS) (hs : Sc w B p q s) :
    Calls Try.prog 86 #[.pointer (some ⟨p, 0, none⟩)] w fun r w' => r = .returned (.int .i64 ((s.b.length - s.at_ : Nat) : Int)) ∧ ∃ m, w' = w.drewN m := by
  obtain ⟨c1, c2, c3, c4, c5, A, c, c6, c7⟩ := hs.cells
  obtain ⟨v, _, _, _, _, ⟨hok, _⟩, _⟩ := hs
  clear c7 c4 c5
  go_enter Try.func86, Try.ntmps86
  go_wp2_with (first | (go_at_call 83; refine (made_yes _ p q ?_).mono ?_; assumption; rintro e w' ⟨rfl, rfl⟩) | (go_at_call 84; refine (rest_calls _ q A s.b.length c s.at_ hok ?_ ?_).mono ?_; assumption; assumption; rintro e w' ⟨rfl, m, rfl⟩))
  go_ret
  exact ⟨by simp, m, rfl⟩
set_option maxHeartbeats 400000 in
theorem Over_calls (w : World) (S : Nat → Prop) (v : Value) (bs : List UInt8) (hr : Rs kByte w S v bs) :
    Calls Try.prog 75 #[v] w fun e w' => ∃ p q, e = .returned (.pointer (some ⟨p, 0, none⟩)) ∧ Sc w' (w.heap.size ≤ ·) p q ⟨bs, 0, 0⟩ ∧ Ext w w' := by
  have HR := Lib.hid hr
  obtain ⟨A, c, rfl, hl, hc, hz, hrow⟩ := hr
  clear hrow
  go_enter Try.func75, Try.ntmps75
  go_wp2_with fail
  refine (Join_calls _ (fun _ => True) _ [bs] (Rs.one_ (heap_alloc_new _ _) trivial ((HR.out.alloc _).mono fun _ _ => trivial)) (by simp [flen]; omega)).mono ?_
  rintro e w1 ⟨u, rfl, ho, he⟩
  have hf : ([bs] : List (List UInt8)).flatten = bs := by simp
  rw [hf] at ho
  have HO := Lib.hid ho
  obtain ⟨A1, c1, rfl, _⟩ := ho.rs
  have HE := Lib.hid (((Ext.refl w).alloc (.cells #[.slice A bs.length c] 24)).trans he)
  clear ho he
  go_wp2_with fail
  go_ret
  have hle := HE.out.le
  refine ⟨w1.heap.size + 1, w1.heap.size, rfl, ⟨_, heap_new _ _ (by simp) _, (Below.heap_alloc _ _ _ (by simp)).trans (heap_new _ _ rfl _), ?_, by omega, ⟨Nat.zero_le _, by show (0 : Nat) ≤ 10; omega⟩, by omega, by omega⟩, (HE.out.alloc _).alloc _⟩
  have h1 := ((HO.out.under.rs).alloc (.cells #[.slice A1 bs.length c1, .int .i64 0] 120)).alloc (.cells #[.pointer (some ⟨w1.heap.size, 0, none⟩), .int .i64 0] 118)
  have h2 := ((HO.out.bound.rs).alloc (.cells #[.slice A1 bs.length c1, .int .i64 0] 120)).alloc (.cells #[.pointer (some ⟨w1.heap.size, 0, none⟩), .int .i64 0] 118)
  exact h2.mono fun b hb => ⟨by have := hb.1; simp at this; omega, by omega, by omega⟩
end Go.Proofs.Ytfflcnlgkbgbhaa
set_option linter.unusedVariables false
set_option linter.unusedSimpArgs false
namespace Go.Proofs.Ytfflcnlgkbgbhaa
end Go.Proofs.Ytfflcnlgkbgbhaa
set_option linter.unusedVariables false
set_option linter.unusedSimpArgs false
namespace Go.Proofs.Ytfflcnlgkbgbhaa
open Go.RowKit

theorem or_low (n x : Nat) (hn : n < 72057594037927936) (hx : x < 128) : bits .or .i64 ((n : Int) * 128) (x : Int) = ((128 * n + x : Nat) : Int) := by
  have hor : 128 * n ||| x = 128 * n + x := by
    rw [show 128 * n = n <<< 7 by rw [Nat.shiftLeft_eq]; omega, Nat.shiftLeft_add_eq_or_of_lt (by omega)]
  show IntKind.i64.wrap ((BitVec.ofInt 64 ((n : Int) * 128) ||| BitVec.ofInt 64 (x : Int)).toNat : Int) = _
  have e : (n : Int) * 128 = ((128 * n : Nat) : Int) := by omega
  rw [e, BitVec.toNat_or, bv_i64 _ (by omega), bv_i64 _ (by omega), hor, IntKind.wrap_i64]
  omega
theorem and127_u8 (x : UInt8) : bits .and .u8 (x.toNat : Int) 127 = ((x.toNat % 128 : Nat) : Int) := by
  have : ∀ k : Fin 256, bits .and .u8 (k.val : Int) 127 = ((k.val % 128 : Nat) : Int) := by decide +kernel
  exact this ⟨x.toNat, x.toNat_lt⟩

theorem rest_row {w : World} {S : Nat → Prop} {A : Option Addr} {c k : Nat} {bs : List UInt8} (h : Rs kByte w S (.slice A bs.length c) bs) (hk : k ≤ bs.length) : Row kByte w S (restA A c k) (bs.drop k) := by
  obtain ⟨A', c', he, _, _, _, hr⟩ := rest_rs h hk
  injection he with e1 _ _
  rw [e1]; exact hr
theorem rdGo_end (i n : Nat) (R : List UInt8) (h : R.length ≤ i) : rdGo i n (R.drop i) = (0, 0, 2) := by rw [List.drop_of_length_le h]; rfl
theorem rdGo_form (n : Nat) (x : UInt8) (l : List UInt8) (hx : x.toNat = 128) : rdGo 0 n (x :: l) = (0, 0, 10) := by unfold rdGo; rw [if_pos ⟨rfl, hx⟩]
theorem rdGo_range (n : Nat) (x : UInt8) (l : List UInt8) : rdGo 9 n (x :: l) = (0, 0, 5) := by unfold rdGo; rw [if_neg (by omega), if_pos rfl]
theorem rdGo_last (i n : Nat) (x : UInt8) (l : List UInt8) (h9 : i ≠ 9) (hx : x.toNat < 128) : rdGo i n (x :: l) = (128 * n + x.toNat % 128, i + 1, 0) := by unfold rdGo; rw [if_neg (by omega), if_neg h9, if_pos hx]
theorem rdGo_more (i n : Nat) (x : UInt8) (l : List UInt8) (h9 : i ≠ 9) (h0 : ¬ (i = 0 ∧ x.toNat = 128)) (hx : ¬ x.toNat < 128) : rdGo i n (x :: l) = rdGo (i + 1) (128 * n + x.toNat % 128) l := by
  conv => lhs; unfold rdGo
  rw [if_neg h0, if_neg h9, if_neg hx]
theorem add_zero_addr (a : Addr) : a.add 0 = a := by unfold Addr.add; simp

theorem step_val (n : Nat) (x : UInt8) (hn : n < 72057594037927936) : bits .or .i64 ((n : Int) * 128) (wrap64 (bits .and .u8 (x.toNat : Int) 127)) = ((128 * n + x.toNat % 128 : Nat) : Int) := by
  rw [and127_u8]
  have : wrap64 ((x.toNat % 128 : Nat) : Int) = ((x.toNat % 128 : Nat) : Int) := by unfold wrap64; omega
  rw [this, or_low n _ hn (by omega)]

set_option maxRecDepth 100000 in
set_option maxHeartbeats 1000000 in
theorem ScNumber_calls (w : World) (B : Nat → Prop) (p q : Nat) (s : ScS) (hs : Sc w B p q s) :
    Calls Try.prog 76 #[.pointer (some ⟨p, 0, none⟩)] w fun e w' => e = .returned (.int .i64 (s.number.1 : Int)) ∧ Sc w' B p q s.number.2 ∧ Upd (two p q) w w' := by
  have HS := Lib.hid hs
  obtain ⟨c1, c2, c3, c4, c5, A, c, c6, c7⟩ := hs.cells
  have hok := hs.ok_.1
  clear hs
  have C7 := Lib.hid c7
  clear c4 c5 c7
  by_cases h0 : s.e = 0
  · have hnum : s.number = ((rd (s.b.drop s.at_)).1, ⟨s.b, s.at_ + (rd (s.b.drop s.at_)).2.1, (rd (s.b.drop s.at_)).2.2⟩) := by unfold ScS.number; rw [if_pos h0]
    rw [h0] at c2
    rw [hnum]
    clear hnum
    have H0 := Lib.hid h0
    clear h0
    go_enter Try.func76, Try.ntmps76
    go_wp2_with (first | (go_at_call 83; refine (made_yes _ p q ?_).mono ?_; assumption; rintro e w' ⟨rfl, rfl⟩) | (go_at_call 84; refine (rest_calls _ q A s.b.length c s.at_ hok ?_ ?_).mono ?_; assumption; assumption; rintro e w' ⟨rfl, m, rfl⟩))
    have hrow := rest_row C7.out hok
    have HSm := Lib.hid (HS.out.drewN m)
    have hRl : (s.b.drop s.at_).length = s.b.length - s.at_ := List.length_drop
    rw [← hRl]
    have hRb : s.at_ + (s.b.drop s.at_).length = s.b.length := by omega
    have hsz : s.b.length ≤ 140737488355328 := by obtain ⟨_, _, _, _, _, hz, _⟩ := C7.out; exact hz
    clear hRl C7 HS
    generalize hRR : s.b.drop s.at_ = R at hrow hRb
    have HRR := Lib.hid hRR
    clear hRR
    have HR := Lib.hid hrow
    clear hrow
    have f1 : w.frozen? ⟨q, 1, none⟩ = false := HSm.out.cells.2.2.2.2.1
    go_loop [3, 22] (fun x i => ∃ i' n' : Nat, i = .int .i64 i' ∧ x = .int .i64 n' ∧ i' ≤ R.length ∧ n' < 128 ^ i' ∧ i' ≤ 9 ∧ Hid (rdGo i' n' (R.drop i') = rd R)) (fun _ i => R.length - (intOf i).toNat)
    case atStart => exact ⟨0, 0, rfl, rfl, Nat.zero_le _, by simp, by omega, Lib.hid rfl⟩
    case round =>
      obtain ⟨i, n, rfl, rfl, hi, hn, hi9, HQ⟩ := hrel
      by_cases hlt : i < R.length
      · obtain ⟨ad, hA, hcell⟩ := HR.out.byte hlt
        rw [hA]
        have hxb := (R[i]).toNat_lt
        have hdrop : R.drop i = R[i] :: R.drop (i + 1) := List.drop_eq_getElem_cons hlt
        rw [hdrop] at HQ
        clear hA hdrop
        generalize R[i] = x at hcell hxb HQ
        by_cases hform : i = 0 ∧ x.toNat = 128
        · obtain ⟨rfl, hx⟩ := hform
          have hq := HQ.out
          rw [rdGo_form n x _ hx] at hq
          have HQ' := Lib.hid hq
          clear hq HQ
          rw [add_zero_addr] at hcell
          have hb1 : ((x.toNat : Int) == 128) = true := beq_iff_eq.2 (by omega)
          clear hx
          go_wp2_with (go_at_call 85; refine (fail_calls _ B p q s HSm.out 10 (by omega)).mono ?_; rintro e w' ⟨rfl, hsc, hup⟩)
          go_ret
          rw [if_pos H0.out] at hsc
          rw [HRR.out, ← HQ'.out]
          exact ⟨rfl, hsc, ((Upd.refl _ _).drewN m).trans hup⟩
        · by_cases h9 : i = 9
          · have hq := HQ.out
            rw [h9, rdGo_range n x _] at hq
            have HQ' := Lib.hid hq
            have hb9 : ((i : Int) == 9) = true := beq_iff_eq.2 (by omega)
            have hb0 : ((i : Int) == 0) = false := beq_eq_false_iff_ne.2 (by omega)
            clear hq HQ hform h9
            go_wp2_with (go_at_call 85; refine (fail_calls _ B p q s HSm.out 5 (by omega)).mono ?_; rintro e w' ⟨rfl, hsc, hup⟩)
            go_ret
            rw [if_pos H0.out] at hsc
            rw [HRR.out, ← HQ'.out]
            exact ⟨rfl, hsc, ((Upd.refl _ _).drewN m).trans hup⟩
          · by_cases hx : x.toNat < 128
            · have hq := HQ.out
              rw [rdGo_last i n x _ h9 hx] at hq
              have HQ' := Lib.hid hq
              have hb9 : ((i : Int) == 9) = false := beq_eq_false_iff_ne.2 (by omega)
              have hi8 : i < 9 := by omega
              have hn8 : n < 72057594037927936 := Nat.lt_of_lt_of_le hn (Nat.le_trans (Nat.pow_le_pow_right (by omega) (show i ≤ 8 by omega)) (by decide))
              clear hq HQ h9 hn
              have HOR := Lib.hid (step_val n x hn8)
              have hn8' : (n : Int) ≤ 72057594037927935 := by omega
              clear hn8
              have hb128 : ((x.toNat : Int) == 128) = false := beq_eq_false_iff_ne.2 (by omega)
              by_cases hi0 : i = 0
              · subst hi0
                rw [add_zero_addr] at hcell
                clear hform
                go_wp2
                go_ret
                rw [HOR.out, HRR.out, ← HQ'.out]
                have hat := HSm.out.setAt (s.at_ + 1) (by omega)
                rw [H0.out] at hat
                exact ⟨rfl, hat, ((Upd.refl _ _).drewN m).set (.inl (.inr rfl)) _⟩
              · have hb0 : ((i : Int) == 0) = false := beq_eq_false_iff_ne.2 (by omega)
                clear hi0 hform
                go_wp2
                go_ret
                rw [HOR.out, HRR.out, ← HQ'.out]
                have hat := HSm.out.setAt (s.at_ + (i + 1)) (by omega)
                rw [H0.out] at hat
                exact ⟨rfl, hat, ((Upd.refl _ _).drewN m).set (.inl (.inr rfl)) _⟩
            · have hq := HQ.out
              rw [rdGo_more i n x _ h9 hform hx] at hq
              have HQ' := Lib.hid hq
              have hb9 : ((i : Int) == 9) = false := beq_eq_false_iff_ne.2 (by omega)
              have hi8 : i < 9 := by omega
              have hn8 : n < 72057594037927936 := Nat.lt_of_lt_of_le hn (Nat.le_trans (Nat.pow_le_pow_right (by omega) (show i ≤ 8 by omega)) (by decide))
              have hn' : 128 * n + x.toNat % 128 < 128 ^ (i + 1) := by rw [Nat.pow_succ]; omega
              have HN' := Lib.hid hn'
              clear hq HQ h9 hn hn'
              have HOR := Lib.hid (step_val n x hn8)
              have hn8' : (n : Int) ≤ 72057594037927935 := by omega
              clear hn8
              by_cases hi0 : i = 0
              · subst hi0
                rw [add_zero_addr] at hcell
                have hb128 : ((x.toNat : Int) == 128) = false := beq_eq_false_iff_ne.2 (by omega)
                clear hform
                go_wp2
                rw [HOR.out]
                go_round
                case rel => exact ⟨1, _, rfl, rfl, by omega, HN'.out, by omega, HQ'⟩
                case measure => simp [intOf]; omega
              · have hb0 : ((i : Int) == 0) = false := beq_eq_false_iff_ne.2 (by omega)
                clear hi0 hform
                go_wp2
                rw [HOR.out]
                go_round
                case rel => exact ⟨i + 1, _, by go_num, rfl, by omega, HN'.out, by omega, HQ'⟩
                case measure => simp [intOf]; omega
      · obtain rfl : i = R.length := by omega
        have hq := HQ.out
        rw [rdGo_end _ _ _ (Nat.le_refl _)] at hq
        have HQ' := Lib.hid hq
        clear hq HQ hlt
        go_wp2_with (go_at_call 85; refine (fail_calls _ B p q s HSm.out 2 (by omega)).mono ?_; rintro e w' ⟨rfl, hsc, hup⟩)
        go_ret
        rw [if_pos H0.out] at hsc
        rw [HRR.out, ← HQ'.out]
        exact ⟨rfl, hsc, ((Upd.refl _ _).drewN m).trans hup⟩
  · have hnum : s.number = (0, s) := by unfold ScS.number; rw [if_neg h0]
    rw [hnum]
    have h1 : ((s.e : Int) != 0) = true := by rw [bne_iff_ne]; omega
    clear h0 hnum
    go_enter Try.func76, Try.ntmps76
    go_wp2_with (go_at_call 83; refine (made_yes _ p q ?_).mono ?_; assumption; rintro e w' ⟨rfl, rfl⟩)
    go_ret
    exact ⟨rfl, HS.out, Upd.refl _ _⟩
end Go.Proofs.Ytfflcnlgkbgbhaa
set_option linter.unusedVariables false
set_option linter.unusedSimpArgs false
namespace Go.Proofs.Ytfflcnlgkbgbhaa
open Go.RowKit

theorem arr4_load {W : World} {S : Nat → Prop} {A : Option Addr} {c : Nat} {xs : List UInt8} (hr : Rs kByte W S (.slice A 4 c) xs) :
    (Instr.loadAt 105 (.pointer A)).run Try.prog W = .ok (.agg (xs.map encB).toArray) W := by
  obtain ⟨h4, _, _, _, hrow⟩ := hr.shape
  obtain ⟨ad, rfl, _⟩ := hrow.byte (j := 0) (by omega)
  have hl := run_loadCells_list (P := Try.prog) W ad (xs.map encB) (fun j v hv => by
    rw [List.getElem?_map] at hv
    have hj : j < xs.length := by
      rcases Nat.lt_or_ge j xs.length with h | h
      · exact h
      · rw [List.getElem?_eq_none h] at hv; cases hv
    obtain ⟨ad', he, hc⟩ := hrow.byte hj
    injection he with he; subst he
    rw [List.getElem?_eq_getElem hj] at hv
    rw [hc]; exact hv)
  rw [List.length_map, ← h4] at hl
  have hi : (Try.prog.info? 105).map (·.size) = some 4 := by kernel_rfl
  cases hq : Try.prog.info? 105 with
  | none => simp [hq] at hi
  | some i =>
    have hs : i.size = 4 := by simpa [hq] using hi
    have hagg : (isAgg 105).run Try.prog W = .ok true W := by
      unfold isAgg
      rw [Sem.run_bind, run_underlying tArr W]
      rfl
    simp only [Instr.loadAt, Instr.sureAddr, Sem.run_bind, Sem.run_pure, Result.andThen_ok, loadVar, hagg, if_true, sizeOf, typeInfo]
    simp [hq, hs, hl]

theorem arr4_cells {W : World} {S : Nat → Prop} {ad : Addr} {c : Nat} {y0 y1 y2 y3 : UInt8} (hr : Rs kByte W S (.slice (some ad) 4 c) [y0, y1, y2, y3]) :
    W.cell? ad = some (encB y0) ∧ W.cell? ⟨ad.block, ad.off + 1, none⟩ = some (encB y1) ∧ W.cell? ⟨ad.block, ad.off + 2, none⟩ = some (encB y2) ∧ W.cell? ⟨ad.block, ad.off + 3, none⟩ = some (encB y3) := by
  obtain ⟨_, _, _, _, hrow⟩ := hr.shape
  have h : ∀ j (hj : j < 4), W.cell? (ad.add j) = some (encB ([y0, y1, y2, y3][j])) := fun j hj => by
    obtain ⟨ad', he, hc⟩ := hrow.byte (j := j) hj
    injection he with he; subst he
    exact hc
  refine ⟨?_, h 1 (by omega), h 2 (by omega), h 3 (by omega)⟩
  have := h 0 (by omega)
  rwa [add_zero_addr] at this
set_option maxRecDepth 100000 in
theorem arr4_equal (W : World) (x0 x1 x2 x3 y0 y1 y2 y3 : UInt8) :
    (Op.equal 105 (.agg #[encB x0, encB x1, encB x2, encB x3]) (.agg #[encB y0, encB y1, encB y2, encB y3])).run Try.prog W = .ok (decide ([x0, x1, x2, x3] = [y0, y1, y2, y3])) W := by
  obtain ⟨i, hi, hz0, hz1, hz2⟩ := info_parts tBytes.info
  have h1 : ∀ a b : UInt8, ∀ d, (Op.equalIn (d + 1) 5 (encB a) (encB b)).run Try.prog W = .ok (decide (a = b)) W := by
    intro a b d
    unfold encB
    rw [run_equalIn_int W d _ _ _ _ _ tByte]
    congr 1
    rw [Bool.eq_iff_iff, beq_iff_eq, decide_eq_true_iff]
    constructor
    · intro h; exact UInt8.toNat.inj (by omega)
    · intro h; rw [h]
  have hp : ∀ (xs : Array Value) (j : Nat) (b : UInt8), xs[j]? = some (encB b) → (part 5 xs j).run Try.prog W = .ok (encB b) W := by
    intro xs j b h
    simp [part, run_underlying tByte, isAgg, h]
  unfold Op.equal Op.maxDepth
  unfold Op.equalIn
  rw [Sem.run_bind, run_underlying tArr W]
  have hr : List.range' 0 4 = [0, 1, 2, 3] := rfl
  have h2 := fun a b => h1 a b 9998
  simp only [Nat.reduceAdd] at h2
  have p0 := hp #[encB x0, encB x1, encB x2, encB x3] 0 x0 rfl
  have p1 := hp #[encB x0, encB x1, encB x2, encB x3] 1 x1 rfl
  have p2 := hp #[encB x0, encB x1, encB x2, encB x3] 2 x2 rfl
  have p3 := hp #[encB x0, encB x1, encB x2, encB x3] 3 x3 rfl
  have q0 := hp #[encB y0, encB y1, encB y2, encB y3] 0 y0 rfl
  have q1 := hp #[encB y0, encB y1, encB y2, encB y3] 1 y1 rfl
  have q2 := hp #[encB y0, encB y1, encB y2, encB y3] 2 y2 rfl
  have q3 := hp #[encB y0, encB y1, encB y2, encB y3] 3 y3 rfl
  clear hp h1
  simp [sizeOf, typeInfo, hi, hz1, hr, p0, p1, p2, p3, q0, q1, q2, q3, h2]
  clear p0 p1 p2 p3 q0 q1 q2 q3 h2
  by_cases e0 : x0 = y0 <;> by_cases e1 : x1 = y1 <;> by_cases e2 : x2 = y2 <;> by_cases e3 : x3 = y3 <;> simp [e0, e1, e2, e3]
theorem arr4_at (A : Option Addr) (c : Nat) (W : World) : (Instr.arrayAt 105 (.slice A 4 c)).run Try.prog W = .ok (.pointer A) W := by
  simp [Instr.arrayAt, run_underlying tArr]
theorem arr4_neq (W : World) (x0 x1 x2 x3 y0 y1 y2 y3 : UInt8) :
    (binOp .neq 105 (.agg #[encB x0, encB x1, encB x2, encB x3]) (.agg #[encB y0, encB y1, encB y2, encB y3])).run Try.prog W = .ok (.bool (!decide ([x0, x1, x2, x3] = [y0, y1, y2, y3]))) W := by
  have h := arr4_equal W x0 x1 x2 x3 y0 y1 y2 y3
  simp only [binOp, Sem.run_bind, h, Result.andThen_ok, Sem.run_pure]
end Go.Proofs.Ytfflcnlgkbgbhaa
set_option linter.unusedVariables false
set_option linter.unusedSimpArgs false
namespace Go.Proofs.Ytfflcnlgkbgbhaa
open Go.RowKit

theorem be4_vals (c : Nat) (hc : c < 4294967296) : #[Value.int .u8 ((c : Int) / 16777216), .int .u8 ((c : Int) / 65536 % 256), .int .u8 ((c : Int) / 256 % 256), .int .u8 ((c : Int) % 256)] = #[encB (byt (c / 16777216)), encB (byt (c / 65536)), encB (byt (c / 256)), encB (byt c)] := by
  have e1 : Value.int .u8 ((c : Int) / 16777216) = encB (byt (c / 16777216)) := by rw [← byteval _ (by omega)]; rfl
  have e2 : Value.int .u8 ((c : Int) / 65536 % 256) = encB (byt (c / 65536)) := by unfold encB; rw [byt_toNat]; rfl
  have e3 : Value.int .u8 ((c : Int) / 256 % 256) = encB (byt (c / 256)) := by unfold encB; rw [byt_toNat]; rfl
  have e4 : Value.int .u8 ((c : Int) % 256) = encB (byt c) := by unfold encB; rw [byt_toNat]; rfl
  rw [e1, e2, e3, e4]
set_option maxHeartbeats 400000 in
theorem RefRecord_calls (w : World) (S : Nat → Prop) (v : Value) (p : List UInt8) (hr : Rs kByte w S v p) :
    Calls Try.prog 52 #[v] w fun e w' => ∃ u, e = .returned (.tuple #[u, .int .i64 ((record p).2 : Int)]) ∧ Ow kByte 5 w' w.heap.size (w.heap.size ≤ ·) u (record p).1 ∧ Ext w w' := by
  have HR := Lib.hid hr
  obtain ⟨A, c, rfl, hl, hc, hz, hrow⟩ := hr
  clear hrow
  by_cases hbig : 65536 < p.length
  · have hrec : record p = ([], 4) := by unfold record; rw [if_pos hbig]
    rw [hrec]
    clear hrec
    go_enter Try.func52, Try.ntmps52
    go_wp2_with fail
    go_ret2
    exact ⟨_, rfl, Ow.nil _ _ _ _ _, Ext.refl _⟩
  · have hrec : record p = (rcd p, 0) := by unfold record; rw [if_neg hbig]
    have HREC := Lib.hid hrec
    have hd := digs_len p.length (by omega)
    clear hrec
    go_enter Try.func52, Try.ntmps52
    go_wp2_with fail
    have hone := Rs.one_byte w w.heap.size 5 rfl (byt 93)
    refine (RefNumber_calls _ _ _ [byt 93] (p.length : Int) hone ⟨by omega, by omega⟩ (by simp)).mono ?_
    rintro e w1 ⟨u, rfl, ho, he⟩
    rw [Int.toNat_natCast] at ho
    have HO := Lib.hid (ho.lower (base' := w.heap.size) (by simp) |>.mono (S' := (w.heap.size ≤ ·)) fun b hb => by simp at hb; omega)
    have HE := Lib.hid (((Ext.refl w).alloc _).trans he)
    clear ho he hone
    go_wp2_with (at_builtin; refine wpList_append_Rs kByte rfl (.tmp 12) (.tmp 13) 24 5 rfl tBytes w.heap.size _ _ _ p (w.heap.size ≤ ·) S rfl rfl HO.out (HR.out.ext HE.out) (fun _ _ h => h) ?cn ?cb HE.out.le ?_)
    case cn => intro b hb; have := HE.out.le; omega
    case cb => simp; omega
    intro v2 w2 ho hg _
    have hb : (byt 93 :: (digs p.length ++ p)) = body p := rfl
    rw [hb] at ho
    have hbl := body_len p
    have HO2 := Lib.hid ho
    have HE2 := Lib.hid (HE.out.grown hg HO.out.from_)
    clear ho hg hb HO HE
    have hRC : rcd p = body p ++ be4 (crc (body p)) := rfl
    have HRC := Lib.hid hRC
    clear hRC
    generalize body p = bd at HO2 HRC hbl
    go_wp2_with fail
    refine (RefSum_calls _ _ _ bd HO2.out.rs).mono ?_
    rintro e w3 ⟨rfl, rfl⟩
    have hX := crc_lt bd
    generalize crc bd = X at hX HRC
    go_wp2_with (at_builtin; refine wpList_append_Rs kByte rfl (.tmp 18) (.tmp 33) 24 5 rfl tBytes w.heap.size _ _ bd (be4 X) (w.heap.size ≤ ·) (fun _ => True) rfl rfl (HO2.out.alloc _) ?cr2 (fun _ _ h => h) ?cn2 ?cb2 ?cz2 ?_)
    case cr2 => rw [be4_vals X hX]; exact Rs.four_ (heap_alloc_new _ _) trivial
    case cn2 => intro b hb; have := HE2.out.le; simp at hb; omega
    case cb2 => rw [be4_len]; omega
    case cz2 => have := HE2.out.le; simp; omega
    intro v4 w4 ho hg _
    have HO4 := Lib.hid ho
    have HE4 := Lib.hid ((HE2.out.alloc _).grown hg HO2.out.from_)
    clear ho hg
    go_wp2
    go_ret2
    rw [HREC.out, HRC.out]
    exact ⟨_, rfl, HO4.out, HE4.out⟩
end Go.Proofs.Ytfflcnlgkbgbhaa
set_option linter.unusedVariables false
set_option linter.unusedSimpArgs false
namespace Go.Proofs.Ytfflcnlgkbgbhaa
open Go.RowKit

theorem rem128 (x : UInt8) : (x.toNat : Int) % 128 = ((x.toNat % 128 : Nat) : Int) := by omega

set_option maxRecDepth 100000 in
set_option maxHeartbeats 4000000 in
theorem Read_calls (w : World) (S : Nat → Prop) (v : Value) (R : List UInt8) (hr : Rs kByte w S v R) :
    Calls Try.prog 81 #[v] w fun e w' => e = .returned (.tuple #[.int .i64 ((rd R).1 : Int), .int .i64 ((rd R).2.1 : Int), .int .i64 ((rd R).2.2 : Int)]) ∧ w = w' := by
  obtain ⟨A, c, rfl, hl, hc, hz, hrow⟩ := hr
  have HR := Lib.hid hrow
  clear hrow hl hc
  go_enter Try.func81, Try.ntmps81
  go_wp2
  go_loop [5, 6] (fun x i => ∃ i' n' : Nat, i = .int .i64 i' ∧ x = .int .i64 n' ∧ i' ≤ R.length ∧ n' < 128 ^ i' ∧ i' ≤ 9 ∧ Hid (rdGo i' n' (R.drop i') = rd R)) (fun _ i => R.length - (intOf i).toNat)
  case atStart => exact ⟨0, 0, rfl, rfl, Nat.zero_le _, by simp, by omega, Lib.hid rfl⟩
  case round =>
    obtain ⟨i, n, rfl, rfl, hi, hn, hi9, HQ⟩ := hrel
    by_cases hlt : i < R.length
    · obtain ⟨ad, rfl, hcell⟩ := HR.out.byte hlt
      have hxb := (R[i]).toNat_lt
      have hdrop : R.drop i = R[i] :: R.drop (i + 1) := List.drop_eq_getElem_cons hlt
      rw [hdrop] at HQ
      clear hdrop
      generalize R[i] = x at hcell hxb HQ
      by_cases hform : i = 0 ∧ x.toNat = 128
      · obtain ⟨rfl, hx⟩ := hform
        have hq := HQ.out
        rw [rdGo_form n x _ hx] at hq
        have HQ' := Lib.hid hq
        clear hq HQ
        rw [add_zero_addr] at hcell
        have hb1 : ((x.toNat : Int) == 128) = true := beq_iff_eq.2 (by omega)
        clear hx
        go_wp2
        go_ret3
        rw [← HQ'.out]
        exact ⟨rfl, rfl⟩
      · by_cases h9 : i = 9
        · have hq := HQ.out
          rw [h9, rdGo_range n x _] at hq
          have HQ' := Lib.hid hq
          have hb9 : ((i : Int) == 9) = true := beq_iff_eq.2 (by omega)
          have hb0 : ((i : Int) == 0) = false := beq_eq_false_iff_ne.2 (by omega)
          clear hq HQ hform h9
          go_wp2
          go_ret3
          rw [← HQ'.out]
          exact ⟨rfl, rfl⟩
        · have hb9 : ((i : Int) == 9) = false := beq_eq_false_iff_ne.2 (by omega)
          have hi8 : i < 9 := by omega
          have hn8 : n < 72057594037927936 := Nat.lt_of_lt_of_le hn (Nat.le_trans (Nat.pow_le_pow_right (by omega) (show i ≤ 8 by omega)) (by decide))
          have hn8' : (n : Int) ≤ 72057594037927935 := by omega
          have hxi : (0 : Int) ≤ (x.toNat : Int) := by omega
          obtain ⟨M, hM⟩ : ∃ M, M = 128 * n + x.toNat % 128 := ⟨_, rfl⟩
          have hM1 : M ≤ 9223372036854775807 := by omega
          have hsum : IntKind.i64.wrap (128 * (n : Int) + (x.toNat : Int) % 128) = (M : Int) := by rw [IntWalk.i64_in _ (by omega)]; omega
          by_cases hx : x.toNat < 128
          · have hq := HQ.out
            rw [rdGo_last i n x _ h9 hx, ← hM] at hq
            have HQ' := Lib.hid hq
            have hxl : (x.toNat : Int) < 128 := by omega
            clear hq HQ h9 hn hn8 hx hM hM1
            have hb128 : ((x.toNat : Int) == 128) = false := beq_eq_false_iff_ne.2 (by omega)
            by_cases hi0 : i = 0
            · subst hi0
              rw [add_zero_addr] at hcell
              clear hform
              go_wp2
              go_ret3
              rw [← HQ'.out]
              exact ⟨rfl, rfl⟩
            · have hb0 : ((i : Int) == 0) = false := beq_eq_false_iff_ne.2 (by omega)
              clear hi0 hform
              go_wp2
              go_ret3
              rw [← HQ'.out]
              exact ⟨rfl, rfl⟩
          · have hq := HQ.out
            rw [rdGo_more i n x _ h9 hform hx, ← hM] at hq
            have HQ' := Lib.hid hq
            have hn' : M < 128 ^ (i + 1) := by rw [Nat.pow_succ, hM]; omega
            have HN' := Lib.hid hn'
            have hxl : (128 : Int) ≤ (x.toNat : Int) := by omega
            clear hq HQ h9 hn hn' hn8 hx hM hM1
            by_cases hi0 : i = 0
            · subst hi0
              rw [add_zero_addr] at hcell
              have hb128 : ((x.toNat : Int) == 128) = false := beq_eq_false_iff_ne.2 (by omega)
              clear hform
              go_wp2
              go_round
              case rel => exact ⟨1, _, rfl, rfl, by omega, HN'.out, by omega, HQ'⟩
              case measure => simp [intOf]; omega
            · have hb0 : ((i : Int) == 0) = false := beq_eq_false_iff_ne.2 (by omega)
              clear hi0 hform
              go_wp2
              go_round
              case rel => exact ⟨i + 1, _, by go_num, rfl, by omega, HN'.out, by omega, HQ'⟩
              case measure => simp [intOf]; omega
    · obtain rfl : i = R.length := by omega
      have hq := HQ.out
      rw [rdGo_end _ _ _ (Nat.le_refl _)] at hq
      have HQ' := Lib.hid hq
      clear hq HQ hlt
      go_wp2
      go_ret3
      rw [← HQ'.out]
      exact ⟨rfl, rfl⟩
end Go.Proofs.Ytfflcnlgkbgbhaa
set_option linter.unusedVariables false
set_option linter.unusedSimpArgs false
namespace Go.Proofs.Ytfflcnlgkbgbhaa
open Go.RowKit

theorem Sc.ext0 {w : World} {B : Nat → Prop} {p q : Nat} {s s' : ScS} (h : Sc w B p q s) (e : s = s') : Sc w B p q s' := e ▸ h

set_option maxRecDepth 100000 in
set_option maxHeartbeats 1000000 in
theorem ScFlag_calls (w : World) (B : Nat → Prop) (p q : Nat) (s : ScS) (hs : Sc w B p q s) :
    Calls Try.prog 77 #[.pointer (some ⟨p, 0, none⟩)] w fun e w' => e = .returned (.bool s.flag.1) ∧ Sc w' B p q s.flag.2 ∧ Upd (two p q) w w' := by
  have HS := Lib.hid hs
  obtain ⟨c1, c2, c3, c4, c5, A, c, c6, c7⟩ := hs.cells
  have hok := hs.ok_.1
  have hnb := (ScS.ok_number hs.ok_).2
  clear hs c4 c5 c7
  by_cases h0 : s.e = 0
  · have hnum : s.number = ((rd (s.b.drop s.at_)).1, ⟨s.b, s.at_ + (rd (s.b.drop s.at_)).2.1, (rd (s.b.drop s.at_)).2.2⟩) := by unfold ScS.number; rw [if_pos h0]
    have hfl : s.flag = if (rd (s.b.drop s.at_)).2.2 = 0 then (if 1 < (rd (s.b.drop s.at_)).1 then (false, ⟨s.b, s.at_, 10⟩) else (decide ((rd (s.b.drop s.at_)).1 = 1), ⟨s.b, s.at_ + (rd (s.b.drop s.at_)).2.1, 0⟩)) else (false, ⟨s.b, s.at_, (rd (s.b.drop s.at_)).2.2⟩) := by unfold ScS.flag; rw [if_pos h0]
    rw [hfl]
    rw [hnum] at hnb
    have hbd := rd_bd (s.b.drop s.at_)
    have hz := hbd.2.2.1
    generalize rd (s.b.drop s.at_) = r at hnum hnb hz
    obtain ⟨n, k, e⟩ := r
    simp only at hnum hnb hz
    have HN := Lib.hid hnum
    have HZ := Lib.hid hz
    have H0 := Lib.hid h0
    clear hnum hfl h0 hbd hz
    by_cases he : e = 0
    · subst he
      simp only [if_true]
      by_cases h1 : 1 < n
      · simp only [if_pos h1]
        go_enter Try.func77, Try.ntmps77
        go_wp2_with (first | (go_at_call 83; refine (made_yes _ p q ?_).mono ?_; assumption; rintro e w' ⟨rfl, rfl⟩))
        refine (ScNumber_calls w B p q s HS.out).mono ?_
        rw [HN.out]
        rintro e w' ⟨rfl, hsc, hup⟩
        obtain ⟨d1, d2, d3, d4, d5, A', c', d6, d7⟩ := hsc.cells
        have HSC := Lib.hid hsc
        have HUP := Lib.hid hup
        clear hsc hup d7 c1 c2 c3 c6
        go_wp2_with fail
        have hst := HSC.out.setAt s.at_ hok
        refine (fail_calls _ B p q _ hst 10 (by omega)).mono ?_
        rintro e w2 ⟨rfl, hsc2, hup2⟩
        have HSC2 := Lib.hid hsc2
        have HUP2 := Lib.hid ((HUP.out.set (.inl (.inr rfl)) _).trans hup2)
        clear hsc2 hup2
        go_wp2
        go_ret
        exact ⟨rfl, HSC2.out, HUP2.out⟩
      · simp only [if_neg h1]
        go_enter Try.func77, Try.ntmps77
        go_wp2_with (first | (go_at_call 83; refine (made_yes _ p q ?_).mono ?_; assumption; rintro e w' ⟨rfl, rfl⟩))
        refine (ScNumber_calls w B p q s HS.out).mono ?_
        rw [HN.out]
        rintro e w' ⟨rfl, hsc, hup⟩
        have HSC := Lib.hid hsc
        have HUP := Lib.hid hup
        have hb1 : ((n : Int) == 1) = decide (n = 1) := by
          by_cases h : n = 1
          · subst h; rfl
          · rw [decide_eq_false h]; exact beq_eq_false_iff_ne.2 (by omega)
        have HB1 := Lib.hid hb1
        clear hsc hup hb1 c1 c2 c3 c6
        go_wp2
        go_ret
        exact ⟨by rw [← HB1.out]; rfl, HSC.out, HUP.out⟩
    · have hn0 := (HZ.out he).1
      have hk0 := (HZ.out he).2
      subst hn0
      subst hk0
      rw [if_neg he]
      go_enter Try.func77, Try.ntmps77
      go_wp2_with (first | (go_at_call 83; refine (made_yes _ p q ?_).mono ?_; assumption; rintro e w' ⟨rfl, rfl⟩))
      refine (ScNumber_calls w B p q s HS.out).mono ?_
      rw [HN.out]
      rintro e w' ⟨rfl, hsc, hup⟩
      have HSC := Lib.hid hsc
      have HUP := Lib.hid hup
      clear hsc hup c1 c2 c3 c6
      go_wp2
      go_ret
      exact ⟨rfl, HSC.out, HUP.out⟩
  · have hnum : s.number = (0, s) := by unfold ScS.number; rw [if_neg h0]
    have hfl : s.flag = (false, s) := by unfold ScS.flag; rw [if_neg h0]
    rw [hfl]
    have HN := Lib.hid hnum
    clear hnum hfl hnb
    go_enter Try.func77, Try.ntmps77
    go_wp2_with (first | (go_at_call 83; refine (made_yes _ p q ?_).mono ?_; assumption; rintro e w' ⟨rfl, rfl⟩))
    refine (ScNumber_calls w B p q s HS.out).mono ?_
    rw [HN.out]
    rintro e w' ⟨rfl, hsc, hup⟩
    have HSC := Lib.hid hsc
    have HUP := Lib.hid hup
    clear hsc hup c1 c2 c3 c6
    go_wp2
    go_ret
    exact ⟨rfl, HSC.out, HUP.out⟩
end Go.Proofs.Ytfflcnlgkbgbhaa
set_option linter.unusedVariables false
set_option linter.unusedSimpArgs false
namespace Go.Proofs.Ytfflcnlgkbgbhaa
open Go.RowKit

theorem part_rs {w : World} {S : Nat → Prop} {A : Option Addr} {m c k : Nat} {bs : List UInt8} (h : Rs kByte w S (.slice A m c) bs) (hk : k ≤ bs.length) : Rs kByte w S (.slice A k c) (bs.take k) := by
  obtain ⟨A', c', he, hl, hc, hz, hr⟩ := h
  injection he with e1 e2 e3
  subst e1; subst e3
  have e : (bs.take k).length = k := by rw [List.length_take]; omega
  exact ⟨_, c, by rw [e], by rw [e]; omega, by omega, by rw [e]; omega, hr.take k⟩
theorem max_val (most : Int) : (if most < 0 then (0 : Int) else most) = (most.toNat : Int) := by split <;> omega

set_option maxRecDepth 100000 in
set_option maxHeartbeats 1000000 in
theorem ScText_calls (w : World) (B : Nat → Prop) (p q : Nat) (s : ScS) (hs : Sc w B p q s) (most : Int) :
    Calls Try.prog 79 #[.pointer (some ⟨p, 0, none⟩), .int .i64 most] w fun e w' => e = .returned (.string ⟨(s.text most).1.toArray⟩) ∧ Sc w' B p q (s.text most).2 ∧ Upd (two p q) w w' := by
  have HS := Lib.hid hs
  obtain ⟨c1, c2, c3, c4, c5, A, c, c6, c7⟩ := hs.cells
  have hok := hs.ok_.1
  have hnb := (ScS.ok_number hs.ok_)
  have hz : s.b.length ≤ 140737488355328 := by obtain ⟨_, _, _, _, _, hz, _⟩ := c7; exact hz
  clear hs c4 c5 c7
  by_cases h0 : s.e = 0
  · have hnum : s.number = ((rd (s.b.drop s.at_)).1, ⟨s.b, s.at_ + (rd (s.b.drop s.at_)).2.1, (rd (s.b.drop s.at_)).2.2⟩) := by unfold ScS.number; rw [if_pos h0]
    have htx : s.text most = if (rd (s.b.drop s.at_)).2.2 = 0 then
      if (most.toNat < (rd (s.b.drop s.at_)).1) then ([], ⟨s.b, s.at_, 4⟩)
      else if s.b.length < s.at_ + (rd (s.b.drop s.at_)).2.1 + (rd (s.b.drop s.at_)).1 then ([], ⟨s.b, s.at_, 2⟩)
      else ((s.b.drop (s.at_ + (rd (s.b.drop s.at_)).2.1)).take (rd (s.b.drop s.at_)).1, ⟨s.b, s.at_ + (rd (s.b.drop s.at_)).2.1 + (rd (s.b.drop s.at_)).1, 0⟩)
    else ([], ⟨s.b, s.at_, (rd (s.b.drop s.at_)).2.2⟩) := by unfold ScS.text; rw [if_pos h0]
    rw [htx]
    rw [hnum] at hnb
    have hbd := rd_bd (s.b.drop s.at_)
    have hzz := hbd.2.2.1
    generalize rd (s.b.drop s.at_) = r at hnum hnb hzz
    obtain ⟨n, k, e⟩ := r
    simp only [ScS.ok] at hnum hnb hzz
    have HN := Lib.hid hnum
    have HZ := Lib.hid hzz
    have H0 := Lib.hid h0
    clear hnum htx h0 hbd hzz
    by_cases he : e = 0
    · subst he
      simp only [if_true]
      by_cases h1 : most.toNat < n
      · simp only [if_pos h1]
        go_enter Try.func79, Try.ntmps79
        go_wp2_with (first | (go_at_call 83; refine (made_yes _ p q ?_).mono ?_; assumption; rintro e w' ⟨rfl, rfl⟩))
        refine (ScNumber_calls w B p q s HS.out).mono ?_
        rw [HN.out]
        rintro e w' ⟨rfl, hsc, hup⟩
        obtain ⟨d1, d2, d3, d4, d5, A', c', d6, d7⟩ := hsc.cells
        have HSC := Lib.hid hsc
        have HUP := Lib.hid hup
        clear hsc hup d7 c1 c2 c3 c6
        go_wp2_with (first | (go_at_call 78; refine (Err_calls _ B p q _ HSC.out).mono ?_; rintro e w' ⟨rfl, rfl⟩))
        all_goals
          have hst := HSC.out.setAt s.at_ hok
          refine (fail_calls _ B p q _ hst 4 (by omega)).mono ?_
          rintro e w2 ⟨rfl, hsc2, hup2⟩
          have HSC2 := Lib.hid hsc2
          have HUP2 := Lib.hid ((HUP.out.set (.inl (.inr rfl)) _).trans hup2)
          clear hsc2 hup2
          go_wp2
          go_ret
          exact ⟨rfl, HSC2.out, HUP2.out⟩
      · simp only [if_neg h1]
        have hmx : ¬ ((if most < 0 then (0 : Int) else most) < (n : Int)) := by split <;> omega
        by_cases h2 : s.b.length < s.at_ + k + n
        · simp only [if_pos h2]
          have hlf : ((s.b.length - (s.at_ + k) : Nat) : Int) < (n : Int) := by omega
          have HL := Lib.hid hlf
          clear hlf
          go_enter Try.func79, Try.ntmps79
          go_wp2_with (first | (go_at_call 83; refine (made_yes _ p q ?_).mono ?_; assumption; rintro e w' ⟨rfl, rfl⟩))
          refine (ScNumber_calls w B p q s HS.out).mono ?_
          rw [HN.out]
          rintro e w' ⟨rfl, hsc, hup⟩
          obtain ⟨d1, d2, d3, d4, d5, A', c', d6, d7⟩ := hsc.cells
          have HSC := Lib.hid hsc
          have HUP := Lib.hid hup
          clear hsc hup d7 c1 c2 c3 c6
          go_wp2_with (first | (go_at_call 78; refine (Err_calls _ B p q _ HSC.out).mono ?_; rintro e w' ⟨rfl, rfl⟩) | (go_at_call 86; refine (Left_calls _ B p q _ HSC.out).mono ?_; rintro e w' ⟨rfl, m, rfl⟩; have hlf := HL.out))
          all_goals
            have hst := (HSC.out.drewN m).setAt s.at_ hok
            refine (fail_calls _ B p q _ hst 2 (by omega)).mono ?_
            rintro e w2 ⟨rfl, hsc2, hup2⟩
            have HSC2 := Lib.hid hsc2
            have HUP2 := Lib.hid (((HUP.out.drewN m).set (.inl (.inr rfl)) _).trans hup2)
            clear hsc2 hup2
            go_wp2
            go_ret
            exact ⟨rfl, HSC2.out, HUP2.out⟩
        · simp only [if_neg h2]
          have hlf : ¬ ((s.b.length - (s.at_ + k) : Nat) : Int) < (n : Int) := by omega
          have HL := Lib.hid hlf
          clear hlf
          go_enter Try.func79, Try.ntmps79
          go_wp2_with (first | (go_at_call 83; refine (made_yes _ p q ?_).mono ?_; assumption; rintro e w' ⟨rfl, rfl⟩))
          refine (ScNumber_calls w B p q s HS.out).mono ?_
          rw [HN.out]
          rintro e w' ⟨rfl, hsc, hup⟩
          obtain ⟨d1, d2, d3, d4, d5, A', c', d6, d7⟩ := hsc.cells
          have HSC := Lib.hid hsc
          have HUP := Lib.hid hup
          clear hsc hup d7 c1 c2 c3 c6
          go_wp2_with (first | (go_at_call 78; refine (Err_calls _ B p q _ HSC.out).mono ?_; rintro e w' ⟨rfl, rfl⟩) | (go_at_call 86; refine (Left_calls _ B p q _ HSC.out).mono ?_; rintro e w' ⟨rfl, m, rfl⟩; have hlf := HL.out))
          all_goals
            have hst := (HSC.out.drewN m).setAt (s.at_ + k + n) (by show _ ≤ s.b.length; omega)
            simp only at hst
            obtain ⟨x1, x2, x3, x4, x5, A2, c2, x6, x7⟩ := hst.cells
            simp only at x1 x2 x3 x4 x5 x6 x7
            have HUP2 := Lib.hid ((HUP.out.drewN m).set (i := 1) (.inl (.inr rfl)) (.int .i64 ((s.at_ + k + n : Nat) : Int)))
            have HST := Lib.hid hst
            have X7 := Lib.hid x7
            rw [Int.natCast_add, Int.natCast_add] at hst HUP2 x1 x3 x6 x7 HST X7
            generalize (w'.drewN m).setCell ⟨q, 1, none⟩ (.int .i64 ((s.at_ : Int) + (k : Int) + (n : Int))) = W at *
            have hcc : s.b.length ≤ c2 := by obtain ⟨_, _, e1, _, hc, _, _⟩ := x7; injection e1 with _ _ e3; omega
            have g1 : (0 : Int) ≤ (s.at_ : Int) + (k : Int) := by omega
            have g2 : (s.at_ : Int) + (k : Int) ≤ (s.at_ : Int) + (k : Int) + (n : Int) := by omega
            have g3 : (s.at_ : Int) + (k : Int) + (n : Int) ≤ (c2 : Int) := by omega
            have g4 : (0 : Int) ≤ (s.at_ : Int) + (k : Int) + (n : Int) := by omega
            clear hst d1 d2 d3 d4 d5 d6 x2 x4 x5 x7
            have hcv : ∀ a : Nat, (convert 24 9 (.slice (if c2 = s.at_ + k then A2 else Option.map (fun x => x.add (s.at_ + k)) A2) n (c2 - (s.at_ + k)))).run Try.prog (W.drewN a) = .ok (.string ⟨((s.b.drop (s.at_ + k)).take n).toArray⟩) (W.drewN a) := fun a => by
              have r1 := (rest_rs X7.out (k := s.at_ + k) (by omega))
              have r2 := part_rs r1 (k := n) (by rw [List.length_drop]; omega)
              exact (r2.drewN a).to_string Try.underlying24 tByte tString
            go_quiet (fail)
            go_wp2
            all_goals
              go_ret
              exact ⟨rfl, HST.out.drewN _, HUP2.out.drewN _⟩
    · have hn0 := (HZ.out he).1
      have hk0 := (HZ.out he).2
      subst hn0
      subst hk0
      rw [if_neg he]
      have he2 : ((e : Int) != 0) = true := by rw [bne_iff_ne]; omega
      go_enter Try.func79, Try.ntmps79
      go_wp2_with (first | (go_at_call 83; refine (made_yes _ p q ?_).mono ?_; assumption; rintro e w' ⟨rfl, rfl⟩))
      refine (ScNumber_calls w B p q s HS.out).mono ?_
      rw [HN.out]
      rintro e w' ⟨rfl, hsc, hup⟩
      have HSC := Lib.hid hsc
      have HUP := Lib.hid hup
      clear hsc hup c1 c2 c3 c6
      go_wp2_with (first | (go_at_call 78; refine (Err_calls _ B p q _ HSC.out).mono ?_; rintro e w' ⟨rfl, rfl⟩))
      go_ret
      exact ⟨rfl, HSC.out, HUP.out⟩
  · have hnum : s.number = (0, s) := by unfold ScS.number; rw [if_neg h0]
    have htx : s.text most = ([], s) := by unfold ScS.text; rw [if_neg h0]
    rw [htx]
    have HN := Lib.hid hnum
    have he2 : ((s.e : Int) != 0) = true := by rw [bne_iff_ne]; omega
    clear hnum htx hnb
    go_enter Try.func79, Try.ntmps79
    go_wp2_with (first | (go_at_call 83; refine (made_yes _ p q ?_).mono ?_; assumption; rintro e w' ⟨rfl, rfl⟩))
    refine (ScNumber_calls w B p q s HS.out).mono ?_
    rw [HN.out]
    rintro e w' ⟨rfl, hsc, hup⟩
    have HSC := Lib.hid hsc
    have HUP := Lib.hid hup
    clear hsc hup c1 c2 c3 c6
    go_wp2_with (first | (go_at_call 78; refine (Err_calls _ B p q _ HSC.out).mono ?_; rintro e w' ⟨rfl, rfl⟩))
    go_ret
    exact ⟨rfl, HSC.out, HUP.out⟩

set_option maxRecDepth 100000 in
set_option maxHeartbeats 1000000 in
theorem ScEnd_calls (w : World) (B : Nat → Prop) (p q : Nat) (s : ScS) (hs : Sc w B p q s) :
    Calls Try.prog 80 #[.pointer (some ⟨p, 0, none⟩)] w fun e w' => e = .returned (.int .i64 (s.end_.e : Int)) ∧ Sc w' B p q s.end_ ∧ Upd (two p q) w w' := by
  have HS := Lib.hid hs
  have hok := hs.ok_.1
  clear hs
  by_cases h0 : s.e = 0
  · by_cases h1 : s.at_ < s.b.length
    · have hx : s.end_ = ⟨s.b, s.at_, 3⟩ := by unfold ScS.end_; rw [if_pos ⟨h0, h1⟩]
      rw [hx]
      clear hx
      go_enter Try.func80, Try.ntmps80
      go_wp2_with (first | (go_at_call 78; refine (Err_calls _ B p q _ HS.out).mono ?_; rintro e w' ⟨rfl, rfl⟩; rw [h0]) | (go_at_call 86; refine (Left_calls _ B p q _ HS.out).mono ?_; rintro e w' ⟨rfl, m, rfl⟩; have hlt : (0 : Int) < ((s.b.length - s.at_ : Nat) : Int) := by omega))
      refine (fail_calls _ B p q _ (HS.out.drewN m) 3 (by omega)).mono ?_
      rw [if_pos h0]
      rintro e w2 ⟨rfl, hsc2, hup2⟩
      have HSC2 := Lib.hid hsc2
      have HUP2 := Lib.hid (((Upd.refl _ _).drewN m).trans hup2)
      clear hsc2 hup2
      go_wp2_with (first | (go_at_call 78; refine (Err_calls _ B p q _ HSC2.out).mono ?_; rintro e w' ⟨rfl, rfl⟩))
      go_ret
      exact ⟨rfl, HSC2.out, HUP2.out⟩
    · have hx : s.end_ = s := by unfold ScS.end_; rw [if_neg fun h => h1 h.2]
      rw [hx]
      have hnlt : ¬ (0 : Int) < ((s.b.length - s.at_ : Nat) : Int) := by omega
      have HL := Lib.hid hnlt
      clear hx hnlt
      go_enter Try.func80, Try.ntmps80
      go_wp2_with (first | (go_at_call 78; refine (Err_calls _ B p q _ (by first | exact HS.out | exact HS.out.drewN _)).mono ?_; rintro e w' ⟨rfl, rfl⟩; rw [h0]) | (go_at_call 86; refine (Left_calls _ B p q _ HS.out).mono ?_; rintro e w' ⟨rfl, m, rfl⟩; have hlt := HL.out))
      go_ret
      exact ⟨by rw [h0]; rfl, HS.out.drewN m, (Upd.refl _ _).drewN m⟩
  · have hx : s.end_ = s := by unfold ScS.end_; rw [if_neg fun h => h0 h.1]
    rw [hx]
    have he2 : ((s.e : Int) == 0) = false := beq_eq_false_iff_ne.2 (by omega)
    clear hx
    go_enter Try.func80, Try.ntmps80
    go_wp2_with (first | (go_at_call 78; refine (Err_calls _ B p q _ HS.out).mono ?_; rintro e w' ⟨rfl, rfl⟩))
    go_ret
    exact ⟨rfl, HS.out, Upd.refl _ _⟩
end Go.Proofs.Ytfflcnlgkbgbhaa
