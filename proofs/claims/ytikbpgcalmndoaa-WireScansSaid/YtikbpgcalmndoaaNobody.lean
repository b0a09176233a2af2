/-
  A scan that no call made; WireNobody.
-/
import Derived.Test.YtikbpgcalmndoaaScanTx
import Derived.Test.YtikbpgcalmndoaaOpens
import Derived.BigQuiet
set_option linter.unusedVariables false
set_option linter.unusedSimpArgs false
namespace Go.Proofs.Ytikbpgcalmndoaa
open Go.RowKit

theorem Sc.from_ {w : World} {B : Nat → Prop} {p q : Nat} {s : ScS} (h : Sc w B p q s) : ∀ k, two p q k → B k := by
  obtain ⟨_, _, _, _, _, _, h6, h7⟩ := h
  rintro k (rfl | rfl)
  · exact h6
  · exact h7
/-- A scan that no call made. -/
def Nob (w : World) (v : Value) : Prop := Calls Try.prog 46 #[v] w fun e w' => e = .returned (.bool false) ∧ w = w'

set_option maxHeartbeats 400000 in
theorem NbNumber (w : World) (v : Value) (h : Nob w v) : Calls Try.prog 26 #[v] w fun e w' => e = .returned (.int .i64 0) ∧ w = w' := by
  have H := Lib.hid h
  clear h
  go_enter Try.func26, Try.ntmps26
  go_wp2_with (go_at_call 46; refine H.out.mono ?_; rintro e w' ⟨rfl, rfl⟩)
  go_ret
  exact ⟨rfl, rfl⟩
set_option maxHeartbeats 400000 in
theorem NbErr (w : World) (v : Value) (h : Nob w v) : Calls Try.prog 30 #[v] w fun e w' => e = .returned (.int .i64 6) ∧ w = w' := by
  have H := Lib.hid h
  clear h
  go_enter Try.func30, Try.ntmps30
  go_wp2_with (go_at_call 46; refine H.out.mono ?_; rintro e w' ⟨rfl, rfl⟩)
  go_ret
  exact ⟨rfl, rfl⟩
set_option maxHeartbeats 400000 in
theorem NbLeft (w : World) (v : Value) (h : Nob w v) : Calls Try.prog 29 #[v] w fun e w' => e = .returned (.int .i64 0) ∧ w = w' := by
  have H := Lib.hid h
  clear h
  go_enter Try.func29, Try.ntmps29
  go_wp2_with (go_at_call 46; refine H.out.mono ?_; rintro e w' ⟨rfl, rfl⟩)
  go_ret
  exact ⟨rfl, rfl⟩
set_option maxHeartbeats 400000 in
theorem NbFlag (w : World) (v : Value) (h : Nob w v) : Calls Try.prog 28 #[v] w fun e w' => e = .returned (.bool false) ∧ w = w' := by
  have H := Lib.hid h
  clear h
  go_enter Try.func28, Try.ntmps28
  go_wp2_with (first | (go_at_call 46; refine H.out.mono ?_; rintro e w' ⟨rfl, rfl⟩) | (go_at_call 26; refine (NbNumber _ _ H.out).mono ?_; rintro e w' ⟨rfl, rfl⟩) | (go_at_call 30; refine (NbErr _ _ H.out).mono ?_; rintro e w' ⟨rfl, rfl⟩))
  go_ret
  exact ⟨rfl, rfl⟩
set_option maxRecDepth 100000 in
set_option maxHeartbeats 400000 in
theorem NbText (w : World) (v : Value) (most : Int) (h : Nob w v) : Calls Try.prog 27 #[v, .int .i64 most] w fun e w' => e = .returned (.string ⟨#[]⟩) ∧ w = w' := by
  have H := Lib.hid h
  clear h
  go_enter Try.func27, Try.ntmps27
  go_wp2_with (first | (go_at_call 46; refine H.out.mono ?_; rintro e w' ⟨rfl, rfl⟩) | (go_at_call 26; refine (NbNumber _ _ H.out).mono ?_; rintro e w' ⟨rfl, rfl⟩) | (go_at_call 30; refine (NbErr _ _ H.out).mono ?_; rintro e w' ⟨rfl, rfl⟩))
  go_ret
  exact ⟨rfl, rfl⟩
set_option maxHeartbeats 400000 in
theorem NbEnd (w : World) (v : Value) (h : Nob w v) : Calls Try.prog 31 #[v] w fun e w' => e = .returned (.int .i64 6) ∧ w = w' := by
  have H := Lib.hid h
  clear h
  go_enter Try.func31, Try.ntmps31
  go_wp2_with (go_at_call 30; refine (NbErr _ _ H.out).mono ?_; rintro e w' ⟨rfl, rfl⟩)
  go_ret
  exact ⟨rfl, rfl⟩

set_option maxRecDepth 100000 in
set_option maxHeartbeats 1000000 in
theorem WireNobody_walk (w : World) (most : Int) (hmost : I64 most) : Calls Try.prog 6 #[.int .i64 most] w fun e w' => e = .returned (.bool true) ∧ Ext w w' := by
  go_enter Try.func6, Try.ntmps6
  go_wp2_with fail
  have hb1 : ((w.alloc (.cells #[Value.pointer none, .int .i64 0] 40)).alloc (.cells #[Value.pointer none, .pointer (some ⟨w.heap.size, 0, none⟩)] 36)).heap[w.heap.size]? = some (.cells #[Value.pointer none, .int .i64 0] 40 (0, 0)) := by
    rw [heap_alloc_old _ _ (by simp)]; exact heap_alloc_new _ _
  have hb2 := heap_new (w.alloc (.cells #[Value.pointer none, .int .i64 0] 40)) (w.heap.size + 1) (by simp) (.cells #[Value.pointer none, .pointer (some ⟨w.heap.size, 0, none⟩)] 36)
  have HE := Lib.hid (((Ext.refl w).alloc (.cells #[Value.pointer none, .int .i64 0] 40)).alloc (.cells #[Value.pointer none, .pointer (some ⟨w.heap.size, 0, none⟩)] 36))
  generalize (w.alloc (.cells #[Value.pointer none, .int .i64 0] 40)).alloc (.cells #[Value.pointer none, .pointer (some ⟨w.heap.size, 0, none⟩)] 36) = W at hb1 hb2 HE ⊢
  have hc0 : W.cell? ⟨w.heap.size + 1, 0, none⟩ = some (.pointer none) := by rw [cell_blk hb2]; rfl
  have hc1 : W.cell? ⟨w.heap.size + 1, 1, none⟩ = some (.pointer (some ⟨w.heap.size, 0, none⟩)) := by rw [cell_blk hb2]; rfl
  have hc2 : W.cell? ⟨w.heap.size, 0, none⟩ = some (.pointer none) := by rw [cell_blk hb1]; rfl
  have HN0 := Lib.hid (show Nob W (.pointer none) from made_nil W)
  have HN1 := Lib.hid (show Nob W (.pointer (some ⟨w.heap.size, 0, none⟩)) from made_empty W _ hc2)
  clear hb1 hb2 hc2
  go_loop [9] (fun i => ∃ k : Nat, k ≤ 2 ∧ i = .int .i64 k) (fun i => 2 - (intOf i).toNat)
  case atStart => exact ⟨0, by omega, rfl⟩
  case round =>
    obtain ⟨k, hk, rfl⟩ := hrel
    rcases (by omega : k = 0 ∨ k = 1 ∨ k = 2) with rfl | rfl | rfl
    · go_wp2_with (first | (go_at_call 26; refine (NbNumber _ _ HN0.out).mono ?_; rintro e w' ⟨rfl, rfl⟩) | (go_at_call 27; refine (NbText _ _ most HN0.out).mono ?_; rintro e w' ⟨rfl, rfl⟩) | (go_at_call 28; refine (NbFlag _ _ HN0.out).mono ?_; rintro e w' ⟨rfl, rfl⟩) | (go_at_call 29; refine (NbLeft _ _ HN0.out).mono ?_; rintro e w' ⟨rfl, rfl⟩) | (go_at_call 30; refine (NbErr _ _ HN0.out).mono ?_; rintro e w' ⟨rfl, rfl⟩) | (go_at_call 31; refine (NbEnd _ _ HN0.out).mono ?_; rintro e w' ⟨rfl, rfl⟩))
      go_round
      case rel => exact ⟨1, by omega, rfl⟩
      case measure => decide
    · go_wp2_with (first | (go_at_call 26; refine (NbNumber _ _ HN1.out).mono ?_; rintro e w' ⟨rfl, rfl⟩) | (go_at_call 27; refine (NbText _ _ most HN1.out).mono ?_; rintro e w' ⟨rfl, rfl⟩) | (go_at_call 28; refine (NbFlag _ _ HN1.out).mono ?_; rintro e w' ⟨rfl, rfl⟩) | (go_at_call 29; refine (NbLeft _ _ HN1.out).mono ?_; rintro e w' ⟨rfl, rfl⟩) | (go_at_call 30; refine (NbErr _ _ HN1.out).mono ?_; rintro e w' ⟨rfl, rfl⟩) | (go_at_call 31; refine (NbEnd _ _ HN1.out).mono ?_; rintro e w' ⟨rfl, rfl⟩))
      go_round
      case rel => exact ⟨2, by omega, rfl⟩
      case measure => decide
    · go_wp2_with fail
      have hr := Rs.one_byte W _ 5 rfl 7
      refine (Over_calls _ _ _ _ hr).mono ?_
      rintro e w1 ⟨p, q, rfl, hsc, hext⟩
      have HE2 := Lib.hid ((HE.out.alloc _).trans hext)
      have HSC := Lib.hid hsc
      clear hsc hext hr
      go_wp2_with fail
      refine (ScNumber_calls w1 _ p q _ HSC.out).mono ?_
      rintro e w2 ⟨rfl, hsc, hup⟩
      have hn : ((ScS.number ⟨[7], 0, 0⟩).1 : Int) = 7 := by decide
      rw [hn]
      have HE3 := Lib.hid (hup.ext HE2.out fun k hk => Nat.le_trans ((HE.out.alloc _).size) (HSC.out.from_ k hk))
      clear hsc hup hn
      go_wp2
      go_ret
      exact ⟨rfl, HE3.out⟩
end Go.Proofs.Ytikbpgcalmndoaa
