/-
  WireRows.
-/
import Derived.Test.YtikbpgcalmndoaaRefRows
import Derived.Test.YtikbpgcalmndoaaRowsLaw
import Derived.Test.YtikbpgcalmndoaaRecords
import Derived.Test.YtikbpgcalmndoaaLawSums
set_option linter.unusedVariables false
set_option linter.unusedSimpArgs false
namespace Go.Proofs.Ytikbpgcalmndoaa
open Go.RowKit

set_option maxRecDepth 100000 in
set_option maxHeartbeats 4000000 in
theorem WireRows_walk (w : World) (S : Nat → Prop) (v : Value) (b : List UInt8) (hr : Rs kByte w S v b) :
    Calls Try.prog 10 #[v] w fun e w' => e = .returned (.bool true) ∧ Ext w w' := by
  have HB := Lib.hid hr
  obtain ⟨A, c, rfl, hl, hc, hz, hrow⟩ := hr
  clear hrow
  by_cases hbig : 20000 < b.length
  · go_enter Try.func10, Try.ntmps10
    go_wp2_with fail
    refine (SumNil_calls _).mono ?_
    rintro e w' ⟨rfl, rfl⟩
    go_wp2
    go_ret
    exact ⟨rfl, Ext.refl _⟩
  · go_enter Try.func10, Try.ntmps10
    go_wp2_with fail
    refine (Rows_calls _ _ _ _ HB.out (by omega)).mono ?_
    rintro e w1 ⟨u1, rfl, ho, he⟩
    have H1 := Lib.hid ho.rs
    have HE1 := Lib.hid he
    clear ho he
    go_wp2_with fail
    refine (RefRows_calls _ _ _ _ (HB.out.ext HE1.out) (by omega)).mono ?_
    rintro e w2 ⟨u2, rfl, ho, he⟩
    have H2 := Lib.hid ho.rs
    have H1' := Lib.hid (H1.out.ext he)
    have HE2 := Lib.hid (HE1.out.trans he)
    clear ho he H1 HE1
    generalize rows b = rw_ at H1' H2
    obtain ⟨rl, rn⟩ := rw_
    simp only at H1' H2
    have kc := fun (W : World) (C : Array Value) (n c : Nat) => Lib.run_convert_bytes_const (P := Try.prog) W 22 5 C n c Try.underlying22 Try.underlying5
    go_wp2_with fail
    clear kc
    have hone : Rs kByte (w2.alloc (.cells #[.int .u8 97] 5 (1, 2))) (fun _ => True) (.slice (some ⟨w2.heap.size, 0, none⟩) 1 1) [97] :=
      ⟨_, 1, rfl, by simp, by omega, by simp, Row.bytes_of (heap_alloc_new _ _) trivial fun j x hj => by
        match j, hj with
        | 0, hj => simp at hj; subst hj; rfl⟩
    refine (Record_calls _ _ _ [97] hone).mono ?_
    have hrec : record [97] = (rcd [97], 0) := by unfold record; rw [if_neg (by decide)]
    have hrl : (rcd [97]).length ≤ 1099511627776 := by rw [rcd_len]; show 1 + (digs 1).length + 1 + 4 ≤ _; rw [digs_under 1 (by omega)]; omega
    rw [hrec]
    rintro e w3 ⟨u3, rfl, ho, he⟩
    have H3 := Lib.hid ho.rs
    have HE3 := Lib.hid ((HE2.out.alloc _).trans he)
    have H1a := Lib.hid ((H1'.out.alloc _).ext he)
    have H2a := Lib.hid ((H2.out.alloc _).ext he)
    have HRL := Lib.hid hrl
    clear ho he H1' H2 HE2 hrec hrl hone
    go_wp2_with fail
    refine (Rows_calls _ _ _ _ H3.out HRL.out).mono ?_
    rw [rows_a]
    rintro e w4 ⟨u4, rfl, ho, he⟩
    obtain ⟨A4, c4, rfl, _⟩ := ho.rs
    have HE4 := Lib.hid (HE3.out.trans he)
    have H1b := Lib.hid (H1a.out.ext he)
    have H2b := Lib.hid (H2a.out.ext he)
    clear ho he H1a H2a HE3
    go_wp2_with fail
    refine (EqualFunc_same _ _ _ _ _ _ H1b.out H2b.out).mono ?_
    rintro e w5 ⟨rfl, rfl⟩
    go_wp2
    go_ret
    exact ⟨rfl, HE4.out⟩
end Go.Proofs.Ytikbpgcalmndoaa
