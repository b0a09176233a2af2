/-
  wire.Scan: a scan in memory; made, rest, fail, Err, Left, Over.
-/
import Derived.Test.YtikbpgcalmndoaaJoin
import Derived.Test.YtikbpgcalmndoaaUpd
import Derived.Test.YtikbpgcalmndoaaScanSpec
set_option linter.unusedVariables false
set_option linter.unusedSimpArgs false
namespace Go.Proofs.Ytikbpgcalmndoaa
open Go.RowKit

/-- A scan lies at block p, its strip at block q, all of it from block B on. -/
def Sc (w : World) (B : Nat → Prop) (p q : Nat) (s : ScS) : Prop :=
  ∃ v, w.heap[p]? = some (.cells #[.pointer (some ⟨q, 0, none⟩), .int .i64 (s.e : Int)] 40 (0, 0)) ∧
    w.heap[q]? = some (.cells #[v, .int .i64 (s.at_ : Int)] 73 (0, 0)) ∧ Rs kByte w (fun b => B b ∧ b ≠ p ∧ b ≠ q) v s.b ∧ p ≠ q ∧ s.ok ∧ B p ∧ B q
theorem Sc.ok_ {w : World} {B : Nat → Prop} {p q : Nat} {s : ScS} (h : Sc w B p q s) : s.ok := let ⟨_, _, _, _, _, h5, _⟩ := h; h5
theorem Sc.drewN {w : World} {B : Nat → Prop} {p q : Nat} {s : ScS} (h : Sc w B p q s) (n : Nat) : Sc (w.drewN n) B p q s :=
  let ⟨v, h1, h2, h3, h4⟩ := h; ⟨v, h1, h2, h3.drewN n, h4⟩
theorem Sc.upd {S : Nat → Prop} {w w' : World} {B : Nat → Prop} {p q : Nat} {s : ScS} (h : Sc w B p q s) (hu : Upd S w w') (hp : ¬ S p) (hq : ¬ S q) (hS : ∀ b, B b → b < w.heap.size → b ≠ p → b ≠ q → ¬ S b) : Sc w' B p q s := by
  obtain ⟨v, h1, h2, h3, h4⟩ := h
  exact ⟨v, blk_upd h1 hu hp, blk_upd h2 hu hq, h3.keep fun b hb hl => hu.block b hl (hS b hb.1 hl hb.2.1 hb.2.2), h4⟩
theorem Sc.ext {w w' : World} {B : Nat → Prop} {p q : Nat} {s : ScS} (h : Sc w B p q s) (he : Ext w w') : Sc w' B p q s := by
  obtain ⟨v, h1, h2, h3, h4⟩ := h
  exact ⟨v, blk_ext h1 he, blk_ext h2 he, h3.ext he, h4⟩

set_option maxHeartbeats 400000 in
theorem made_yes (w : World) (p q : Nat) (hc : w.cell? ⟨p, 0, none⟩ = some (.pointer (some ⟨q, 0, none⟩))) :
    Calls Try.prog 46 #[.pointer (some ⟨p, 0, none⟩)] w fun e w' => e = .returned (.bool true) ∧ w = w' := by
  go_enter Try.func46, Try.ntmps46
  go_wp2
  go_ret
  exact ⟨rfl, rfl⟩
set_option maxHeartbeats 400000 in
theorem made_nil (w : World) : Calls Try.prog 46 #[.pointer none] w fun e w' => e = .returned (.bool false) ∧ w = w' := by
  go_enter Try.func46, Try.ntmps46
  go_wp2
  go_ret
  exact ⟨rfl, rfl⟩
set_option maxHeartbeats 400000 in
theorem made_empty (w : World) (p : Nat) (hc : w.cell? ⟨p, 0, none⟩ = some (.pointer none)) :
    Calls Try.prog 46 #[.pointer (some ⟨p, 0, none⟩)] w fun e w' => e = .returned (.bool false) ∧ w = w' := by
  go_enter Try.func46, Try.ntmps46
  go_wp2
  go_ret
  exact ⟨rfl, rfl⟩

/-- The model's words for what is left of a slice. -/
def restA (A : Option Addr) (c k : Nat) : Option Addr := if c = k then A else Option.map (fun x => x.add k) A
theorem rest_rs {w : World} {S : Nat → Prop} {A : Option Addr} {c k : Nat} {bs : List UInt8} (h : Rs kByte w S (.slice A bs.length c) bs) (hk : k ≤ bs.length) : Rs kByte w S (.slice (restA A c k) (bs.length - k) (c - k)) (bs.drop k) := by
  obtain ⟨A', c', he, hl, hc, hz, hr⟩ := h
  injection he with e1 e2 e3
  subst e1; subst e3
  refine ⟨_, c - k, by rw [List.length_drop], by rw [List.length_drop]; omega, by omega, by rw [List.length_drop]; omega, ?_⟩
  unfold restA
  split
  · exact Row.empty (by rw [List.length_drop]; omega)
  · have := hr.drop k
    simpa [kByte, Kd.scalar] using this

set_option maxHeartbeats 400000 in
theorem rest_calls (w : World) (q : Nat) (A : Option Addr) (n c k : Nat) (hk : k ≤ n) (h0 : w.cell? ⟨q, 0, none⟩ = some (.slice A n c)) (h1 : w.cell? ⟨q, 1, none⟩ = some (.int .i64 (k : Int))) :
    Calls Try.prog 47 #[.pointer (some ⟨q, 0, none⟩)] w fun e w' => e = .returned (.slice (restA A c k) (n - k) (c - k)) ∧ ∃ m, w' = w.drewN m := by
  have h2 : (0 : Int) ≤ (k : Int) := by omega
  have h3 : (k : Int) ≤ (n : Int) := by omega
  go_enter Try.func47, Try.ntmps47
  go_wp2
  go_quiet (fail)
  go_wp2
  all_goals
    go_ret
    exact ⟨by simp [restA, *], nq, rfl⟩

/-- Facts of a scan's cells. -/
theorem Sc.cells {w : World} {B : Nat → Prop} {p q : Nat} {s : ScS} (h : Sc w B p q s) : w.cell? ⟨p, 0, none⟩ = some (.pointer (some ⟨q, 0, none⟩)) ∧ w.cell? ⟨p, 1, none⟩ = some (.int .i64 (s.e : Int)) ∧ w.cell? ⟨q, 1, none⟩ = some (.int .i64 (s.at_ : Int)) ∧
    w.frozen? ⟨p, 1, none⟩ = false ∧ w.frozen? ⟨q, 1, none⟩ = false ∧ ∃ A c, w.cell? ⟨q, 0, none⟩ = some (.slice A s.b.length c) ∧ Rs kByte w (fun b => B b ∧ b ≠ p ∧ b ≠ q) (.slice A s.b.length c) s.b := by
  obtain ⟨v, h1, h2, h3, h4⟩ := h
  have h3' := h3
  obtain ⟨A, c, rfl, _⟩ := h3'
  exact ⟨by rw [cell_blk h1]; rfl, by rw [cell_blk h1]; rfl, by rw [cell_blk h2]; rfl, frozen_blk h1 1, frozen_blk h2 1, A, c, by rw [cell_blk h2]; rfl, h3⟩
theorem Sc.setE {w : World} {B : Nat → Prop} {p q : Nat} {s : ScS} (h : Sc w B p q s) (e : Nat) (he : e ≤ 10) : Sc (w.setCell ⟨p, 1, none⟩ (.int .i64 (e : Int))) B p q ⟨s.b, s.at_, e⟩ := by
  obtain ⟨v, h1, h2, h3, h4, h5, h6⟩ := h
  refine ⟨v, by rw [heap_setCell_same w p 1 _ _ _ h1]; rfl, ?_, h3.seti (fun h => h.2.1 rfl) _, h4, ⟨h5.1, he⟩, h6⟩
  rw [heap_setCell_other w ⟨p, 1, none⟩ q _ (fun e => h4 e.symm)]
  exact h2
theorem Sc.setAt {w : World} {B : Nat → Prop} {p q : Nat} {s : ScS} (h : Sc w B p q s) (k : Nat) (hk : k ≤ s.b.length) : Sc (w.setCell ⟨q, 1, none⟩ (.int .i64 (k : Int))) B p q ⟨s.b, k, s.e⟩ := by
  obtain ⟨v, h1, h2, h3, h4, h5, h6⟩ := h
  refine ⟨v, ?_, by rw [heap_setCell_same w q 1 _ _ _ h2]; rfl, h3.seti (fun h => h.2.2 rfl) _, h4, ⟨hk, h5.2⟩, h6⟩
  rw [heap_setCell_other w ⟨q, 1, none⟩ p _ (fun e => h4 e)]
  exact h1
/-- The blocks of a scan. -/
def two (p q : Nat) (b : Nat) : Prop := b = p ∨ b = q

set_option maxHeartbeats 400000 in
theorem fail_calls (w : World) (B : Nat → Prop) (p q : Nat) (s : ScS) (hs : Sc w B p q s) (e : Nat) (he : e ≤ 10) :
    Calls Try.prog 48 #[.pointer (some ⟨p, 0, none⟩), .int .i64 (e : Int)] w fun r w' => r = .returned (.int .i64 0) ∧ Sc w' B p q ⟨s.b, s.at_, if s.e = 0 then e else s.e⟩ ∧ Upd (two p q) w w' := by
  obtain ⟨c1, c2, c3, c4, c5, A, c, c6, c7⟩ := hs.cells
  have HS := Lib.hid hs
  clear hs c7
  by_cases h0 : s.e = 0
  · rw [h0] at c2
    rw [if_pos h0]
    have H0 := Lib.hid h0
    clear h0
    go_enter Try.func48, Try.ntmps48
    go_wp2_with (go_at_call 46; refine (made_yes _ p q ?_).mono ?_; assumption; rintro e w' ⟨rfl, rfl⟩)
    go_ret
    exact ⟨rfl, HS.out.setE e he, (Upd.refl _ _).set (.inl (.inl rfl)) _⟩
  · rw [if_neg h0]
    have h1 : ((s.e : Int) == 0) = false := beq_eq_false_iff_ne.2 (by omega)
    clear h0
    go_enter Try.func48, Try.ntmps48
    go_wp2_with (go_at_call 46; refine (made_yes _ p q ?_).mono ?_; assumption; rintro e w' ⟨rfl, rfl⟩)
    go_ret
    exact ⟨rfl, HS.out, Upd.refl _ _⟩

set_option maxHeartbeats 400000 in
theorem Err_calls (w : World) (B : Nat → Prop) (p q : Nat) (s : ScS) (hs : Sc w B p q s) :
    Calls Try.prog 30 #[.pointer (some ⟨p, 0, none⟩)] w fun r w' => r = .returned (.int .i64 (s.e : Int)) ∧ w = w' := by
  obtain ⟨c1, c2, _⟩ := hs.cells
  clear hs
  go_enter Try.func30, Try.ntmps30
  go_wp2_with (go_at_call 46; refine (made_yes _ p q ?_).mono ?_; assumption; rintro e w' ⟨rfl, rfl⟩)
  go_ret
  exact ⟨rfl, rfl⟩

set_option maxHeartbeats 400000 in
theorem Left_calls (w : World) (B : Nat → Prop) (p q : Nat) (s : ScS) (hs : Sc w B p q s) :
    Calls Try.prog 29 #[.pointer (some ⟨p, 0, none⟩)] w fun r w' => r = .returned (.int .i64 ((s.b.length - s.at_ : Nat) : Int)) ∧ ∃ m, w' = w.drewN m := by
  obtain ⟨c1, c2, c3, c4, c5, A, c, c6, c7⟩ := hs.cells
  obtain ⟨v, _, _, _, _, ⟨hok, _⟩, _⟩ := hs
  clear c7 c4 c5
  go_enter Try.func29, Try.ntmps29
  go_wp2_with (first | (go_at_call 46; refine (made_yes _ p q ?_).mono ?_; assumption; rintro e w' ⟨rfl, rfl⟩) | (go_at_call 47; refine (rest_calls _ q A s.b.length c s.at_ hok ?_ ?_).mono ?_; assumption; assumption; rintro e w' ⟨rfl, m, rfl⟩))
  go_ret
  exact ⟨by simp, m, rfl⟩
set_option maxHeartbeats 400000 in
theorem Over_calls (w : World) (S : Nat → Prop) (v : Value) (bs : List UInt8) (hr : Rs kByte w S v bs) :
    Calls Try.prog 32 #[v] w fun e w' => ∃ p q, e = .returned (.pointer (some ⟨p, 0, none⟩)) ∧ Sc w' (w.heap.size ≤ ·) p q ⟨bs, 0, 0⟩ ∧ Ext w w' := by
  have HR := Lib.hid hr
  obtain ⟨A, c, rfl, hl, hc, hz, hrow⟩ := hr
  clear hrow
  go_enter Try.func32, Try.ntmps32
  go_wp2_with fail
  refine (Join_calls _ (fun _ => True) _ [bs] (Rs.one_ (heap_alloc_new _ _) trivial ((HR.out.alloc _).mono fun _ _ => trivial)) (by simp [flen]; omega)).mono ?_
  rintro e w1 ⟨u, rfl, ho, he⟩
  have hf : ([bs] : List (List UInt8)).flatten = bs := by simp
  rw [hf] at ho
  have HO := Lib.hid ho
  obtain ⟨A1, c1, rfl, _⟩ := ho.rs
  have HE := Lib.hid (((Ext.refl w).alloc (.cells #[.slice A bs.length c] 22)).trans he)
  clear ho he
  go_wp2_with fail
  go_ret
  have hle := HE.out.le
  refine ⟨w1.heap.size + 1, w1.heap.size, rfl, ⟨_, heap_new _ _ (by simp) _, (Below.heap_alloc _ _ _ (by simp)).trans (heap_new _ _ rfl _), ?_, by omega, ⟨Nat.zero_le _, by show (0 : Nat) ≤ 10; omega⟩, by omega, by omega⟩, (HE.out.alloc _).alloc _⟩
  have h1 := ((HO.out.under.rs).alloc (.cells #[.slice A1 bs.length c1, .int .i64 0] 73)).alloc (.cells #[.pointer (some ⟨w1.heap.size, 0, none⟩), .int .i64 0] 40)
  have h2 := ((HO.out.bound.rs).alloc (.cells #[.slice A1 bs.length c1, .int .i64 0] 73)).alloc (.cells #[.pointer (some ⟨w1.heap.size, 0, none⟩), .int .i64 0] 40)
  exact h2.mono fun b hb => ⟨by have := hb.1; simp at this; omega, by omega, by omega⟩
end Go.Proofs.Ytikbpgcalmndoaa
