/-
  wire.Text, wire.Flag.
-/
import Derived.Test.YtikbpgcalmndoaaNumber
set_option linter.unusedVariables false
set_option linter.unusedSimpArgs false
namespace Go.Proofs.Ytikbpgcalmndoaa
open Go.RowKit

theorem tString : Try.prog.underlying 9 = some .string := by kernel_rfl
theorem tByte : Try.prog.underlying 5 = some (.int .u8) := by kernel_rfl

set_option maxHeartbeats 400000 in
theorem Text_calls (w : World) (S : Nat → Prop) (v : Value) (bs : List UInt8) (s : ByteArray) (hr : Rs kByte w S v bs) (hsz : bs.length + 9 + s.size ≤ 140737488355328) :
    Calls Try.prog 18 #[v, .string s] w fun e w' => ∃ u, e = .returned u ∧ Ow kByte 5 w' w.heap.size (w.heap.size ≤ ·) u (bs ++ digs s.size ++ s.data.toList) ∧ Ext w w' := by
  have HR := Lib.hid hr
  clear hr
  go_enter Try.func18, Try.ntmps18
  go_wp2_with fail
  refine (Number_calls w S v bs _ HR.out ⟨by omega, by omega⟩ (by omega)).mono ?_
  rintro e w' ⟨u, rfl, ho, he⟩
  have HO := Lib.hid ho
  have HE := Lib.hid he
  have hd := digs_len s.size (by omega)
  clear ho he
  go_wp2_with (at_builtin; refine wpList_append_str rfl (.tmp 8) (.tmp 9) 22 9 5 rfl tBytes tString w.heap.size _ _ _ _ rfl rfl HO.out (fun _ h => h) ?c1 HE.out.le ?_)
  case c1 => simp; omega
  intro v' w2 ho hg
  have HO' := Lib.hid ho
  have HE' := Lib.hid (HE.out.grown hg HO.out.from_)
  clear ho hg
  go_wp2
  go_ret
  refine ⟨_, rfl, ?_, HE'.out⟩
  rw [List.append_assoc]; exact HO'.out

set_option maxHeartbeats 400000 in
theorem Flag_calls (w : World) (S : Nat → Prop) (v : Value) (bs : List UInt8) (b : Bool) (hr : Rs kByte w S v bs) (hsz : bs.length + 9 ≤ 140737488355328) :
    Calls Try.prog 19 #[v, .bool b] w fun e w' => ∃ u, e = .returned u ∧ Ow kByte 5 w' w.heap.size (w.heap.size ≤ ·) u (bs ++ digs b.toNat) ∧ Ext w w' := by
  have HR := Lib.hid hr
  clear hr
  cases b
  all_goals
    go_enter Try.func19, Try.ntmps19
    go_wp2_with fail
    refine (Number_calls w S v bs _ HR.out ⟨by omega, by omega⟩ (by omega)).mono ?_
    rintro e w' ⟨u, rfl, ho, he⟩
    have HO := Lib.hid ho
    have HE := Lib.hid he
    clear ho he
    go_wp2
    go_ret
    exact ⟨_, rfl, HO.out, HE.out⟩
end Go.Proofs.Ytikbpgcalmndoaa
