/-
  spandrelref01.Rows (as wire.Rows), slices.EqualFunc over bytes.Equal.
-/
import Derived.Test.YtikbpgcalmndoaaWRows
import Derived.Test.YtikbpgcalmndoaaBytes
set_option linter.unusedVariables false
set_option linter.unusedSimpArgs false
namespace Go.Proofs.Ytikbpgcalmndoaa
open Go.RowKit

set_option maxRecDepth 100000 in
set_option maxHeartbeats 4000000 in
theorem RefRows_calls (w : World) (S : Nat → Prop) (v : Value) (b : List UInt8) (hr : Rs kByte w S v b) (hsz : b.length ≤ 1099511627776) :
    Calls Try.prog 42 #[v] w fun e w' => ∃ u, e = .returned (.tuple #[u, .int .i64 ((rows b).2 : Int)]) ∧ Ow (kSlice kByte) 22 w' w.heap.size (w.heap.size ≤ ·) u (rows b).1 ∧ Ext w w' := by
  have HR := Lib.hid hr
  obtain ⟨A, c, rfl, hl, hc, hz, hrow⟩ := hr
  clear hrow
  go_enter Try.func42, Try.ntmps42
  go_wp2_with fail
  go_loopw [4, 5] (fun u n wr => ∃ (k : Nat) (acc : List (List UInt8)), n = .int .i64 k ∧ k ≤ b.length ∧ acc.length ≤ k ∧ Hid (acc ++ (rows (b.drop k)).1 = (rows b).1 ∧ k + (rows (b.drop k)).2 = (rows b).2) ∧ Hid (Ow (kSlice kByte) 22 wr w.heap.size (w.heap.size ≤ ·) u acc) ∧ Hid (Ext w wr)) (fun _ n _ => b.length - (intOf n).toNat)
  case atStart => exact ⟨0, [], rfl, by omega, by simp, Lib.hid (by simp), Lib.hid (Ow.nil _ _ _ _ _), Lib.hid (Ext.refl _)⟩
  case round =>
    obtain ⟨k, acc, rfl, hk, hak, HA, HO, HE⟩ := hrel
    have hs1 := slice_from tBytes A b.length c .i64 (k : Int) k rfl hk
    have hrest := (HR.out.ext HE.out).from_ (l := k) rfl hk
    simp only [partV_eq] at hs1 hrest
    have HREST := Lib.hid hrest
    have hol : acc.length ≤ 140737488355328 := HO.out.2.1
    clear hrest
    go_wp2_with fail
    refine (RefPick_calls _ _ _ _ HREST.out).mono ?_
    rintro e w1 ⟨p, rfl, ho, he⟩
    have HP := Lib.hid ho
    have HO1 := Lib.hid (HO.out.ext he)
    have HE1 := Lib.hid (HE.out.trans he)
    have HLE := Lib.hid he.le
    clear ho he
    by_cases hok : (pick (b.drop k)).2.2 = 0
    · have hst := rows_step b k acc hok HA.out.1 HA.out.2
      have hpk := pick_ok (b.drop k) hok
      rw [List.length_drop] at hpk
      generalize pick (b.drop k) = pk at hok hst hpk HP
      obtain ⟨pp, pn, pe⟩ := pk
      simp only at hok hst hpk HP
      subst hok
      have HST := Lib.hid hst
      have hp1 := hpk.1
      have hp2 := hpk.2.1
      obtain ⟨Ap, cp, rfl, _⟩ := HP.out.rs
      clear hst hpk
      go_wp2_with (at_builtin; refine wpList_append_Rs (kSlice kByte) rfl (.tmp 21) (.tmp 23) 30 22 rfl tRows w.heap.size _ _ acc [pp] (w.heap.size ≤ ·) (fun b => wr.heap.size ≤ b ∧ w.heap.size ≤ b) rfl rfl (HO1.out.alloc _) (Rs.one_ (heap_alloc_new _ _) ?cs ((HP.out.rs.alloc _).mono ?cm)) (apart_rows HO.out (fun _ h => h)) ?cn ?cb ?cz ?_)
      case cs => exact ⟨HLE.out, HE1.out.le⟩
      case cm => intro b hb; have := HE.out.le; exact ⟨hb, by omega⟩
      case cn => intro b hb; have := HE1.out.le; simp at hb; omega
      case cb => simp; omega
      case cz => have := HE1.out.le; simp; omega
      intro v2 w2 ho hg _
      have HO2 := Lib.hid ho
      have HE2 := Lib.hid ((HE1.out.alloc _).grown hg HO.out.from_)
      clear ho hg
      go_wp2
      go_roundw
      case rel => exact ⟨k + pn, acc ++ [pp], by first | rfl | go_num, by omega, by simp; omega, HST, HO2, HE2⟩
      case measure => simp [intOf]; omega
    · have hen := rows_end b k acc hok HA.out.1 HA.out.2
      have hne : (((pick (b.drop k)).2.2 : Int) != 0) = true := by rw [bne_iff_ne]; omega
      generalize pick (b.drop k) = pk at hok hne HP
      obtain ⟨pp, pn, pe⟩ := pk
      simp only at hok hne HP
      have HEN := Lib.hid hen
      clear hen hok
      go_wp2_with fail
      go_ret2
      rw [HEN.out.1, HEN.out.2]
      exact ⟨_, rfl, HO1.out, HE1.out⟩

set_option maxHeartbeats 1000000 in
theorem EqualFunc_same (w : World) (S T : Nat → Prop) (v u : Value) (xs : List (List UInt8)) (h1 : Rs (kSlice kByte) w S v xs) (h2 : Rs (kSlice kByte) w T u xs) :
    Calls Try.prog 43 #[v, u, .func (.func 16) #[] #[]] w fun e w' => e = .returned (.bool true) ∧ w = w' := by
  obtain ⟨A, c, rfl, hl, hc, hz, hrow⟩ := h1
  obtain ⟨A2, c2, rfl, hl2, hc2, hz2, hrow2⟩ := h2
  have HR := Lib.hid hrow
  have HR2 := Lib.hid hrow2
  clear hrow hrow2
  go_enter Try.func43, Try.ntmps43
  go_wp2
  go_loop [17] (fun i => ∃ k : Nat, i = .int .i64 k ∧ k ≤ xs.length) (fun i => xs.length - (intOf i).toNat)
  case atStart => exact ⟨0, rfl, by omega⟩
  case round =>
    obtain ⟨k, rfl, hk⟩ := hrel
    by_cases hlt : k < xs.length
    · obtain ⟨ad, v1, rfl, hc1, hv1⟩ := HR.out.slice hlt
      obtain ⟨ad2, v2, rfl, hc2, hv2⟩ := HR2.out.slice hlt
      have HV1 := Lib.hid hv1
      have HV2 := Lib.hid hv2
      clear hv1 hv2
      have hki : (k : Int) < (xs.length : Int) := by omega
      go_wp2_with (go_at_call 16; refine (Equal_same _ _ _ _ _ _ HV1.out HV2.out).mono ?_; rintro e w' ⟨rfl, rfl⟩)
      go_round
      case rel => exact ⟨k + 1, by go_num, by omega⟩
      case measure => simp [intOf]; omega
    · obtain rfl : k = xs.length := by omega
      clear hlt
      go_wp2
      go_ret
      exact ⟨rfl, rfl⟩
end Go.Proofs.Ytikbpgcalmndoaa
