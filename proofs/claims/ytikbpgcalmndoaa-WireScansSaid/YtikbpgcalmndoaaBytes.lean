/-
  slices.Clone, bytes.Equal at []byte.
-/
import Derived.Test.YtikbpgcalmndoaaTexts
set_option linter.unusedVariables false
set_option linter.unusedSimpArgs false
namespace Go.Proofs.Ytikbpgcalmndoaa
open Go.RowKit

set_option maxHeartbeats 400000 in
theorem Clone_calls (w : World) (S : Nat → Prop) (v : Value) (bs : List UInt8) (hr : Rs kByte w S v bs) (hsz : bs.length ≤ 140737488355328) :
    Calls Try.prog 15 #[v] w fun e w' => ∃ u, e = .returned u ∧ Ow kByte 5 w' w.heap.size (w.heap.size ≤ ·) u bs ∧ Ext w w' := by
  have HR := Lib.hid hr
  obtain ⟨A, c, rfl, hl, hc, hzl, hrow⟩ := hr
  cases A with
  | none =>
    have : bs = [] := by
      rcases Nat.eq_zero_or_pos bs.length with h0 | h0
      · exact List.eq_nil_of_length_eq_zero h0
      · obtain ⟨ad, h, _⟩ := hrow h0; cases h
    subst this
    clear hrow
    have hq := @Lib.run_eql_slice_nil Try.prog
    go_enter Try.func15, Try.ntmps15
    go_wp2
    go_ret
    exact ⟨_, rfl, Ow.nil _ _ _ _ _, Ext.refl _⟩
  | some ad =>
    clear hrow
    have hq := @Lib.run_eql_slice_nil Try.prog
    go_enter Try.func15, Try.ntmps15
    go_wp2_with (at_builtin; refine wpList_append_Rs kByte rfl (.tmp 5) (.tmp 6) 22 5 rfl tBytes w.heap.size _ _ [] bs (w.heap.size ≤ ·) S rfl rfl ?co (HR.out.alloc _) (fun _ _ h => h) ?cn ?cb ?cz ?_)
    case co => exact Ow.slit (xs := []) (heap_alloc_new _ _) (Nat.le_refl _) (Nat.le_refl _) (by simp) (by simp)
    case cn => intro b hb; simp at hb; omega
    case cb => simpa using hsz
    case cz => simp
    intro v' w2 ho hg _
    have HO := Lib.hid ho
    have HE := Lib.hid (((Ext.refl w).alloc _).grown hg (fun k hk => by simp [Value.ownBlock] at hk; omega))
    clear ho hg
    go_wp2
    go_ret
    exact ⟨_, rfl, HO.out, HE.out⟩

set_option maxHeartbeats 400000 in
theorem Equal_calls (w : World) (S T : Nat → Prop) (v u : Value) (xs ys : List UInt8) (h1 : Rs kByte w S v xs) (h2 : Rs kByte w T u ys) :
    Calls Try.prog 16 #[v, u] w fun e w' => e = .returned (.bool (xs == ys)) ∧ w = w' := by
  have c1 := h1.to_string (P := Try.prog) Try.underlying22 tByte tString
  have c2 := h2.to_string (P := Try.prog) Try.underlying22 tByte tString
  clear h1 h2
  go_enter Try.func16, Try.ntmps16
  go_wp2
  go_ret
  exact ⟨rfl, rfl⟩

theorem Equal_same (w : World) (S T : Nat → Prop) (v u : Value) (xs : List UInt8) (h1 : Rs kByte w S v xs) (h2 : Rs kByte w T u xs) :
    Calls Try.prog 16 #[v, u] w fun e w' => e = .returned (.bool true) ∧ w = w' :=
  (Equal_calls w S T v u xs xs h1 h2).mono fun _ _ ⟨h, k⟩ => ⟨by rw [h]; simp, k⟩
end Go.Proofs.Ytikbpgcalmndoaa
