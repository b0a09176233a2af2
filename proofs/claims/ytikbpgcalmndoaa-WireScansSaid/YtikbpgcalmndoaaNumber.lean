/-
  wire.Number: a number's bytes behind any others.
-/
import Derived.Test.YtikbpgcalmndoaaJoin
import Derived.Test.YtikbpgcalmndoaaWireSpec
set_option linter.unusedVariables false
set_option linter.unusedSimpArgs false
namespace Go.Proofs.Ytikbpgcalmndoaa
open Go.RowKit

/-- The array of a number's groups: what is not written yet, and what is. -/
def grp (i : Nat) (acc : List UInt8) : Array Value := (List.replicate i (Value.int .u8 0) ++ acc.map encB).toArray
theorem grp_set (i : Nat) (b : UInt8) (acc : List UInt8) : (grp (i + 1) acc).setIfInBounds i (encB b) = grp i (b :: acc) := by
  unfold grp
  rw [List.setIfInBounds_toArray, List.set_append_left _ _ (by simp), List.replicate_succ', List.set_append_right _ _ (by simp)]
  simp
theorem grp_at (i : Nat) (acc : List UInt8) (j : Nat) (x : UInt8) (h : acc[j]? = some x) : (grp i acc)[i + j]? = some (.int .u8 (x.toNat : Int)) := by
  unfold grp
  rw [List.getElem?_toArray, List.getElem?_append_right (by simp)]
  simp [h, encB]

theorem bv_i64 (a : Nat) (ha : a < 9223372036854775808) : (BitVec.ofInt 64 (a : Int)).toNat = a := by
  rw [BitVec.ofInt_natCast, BitVec.toNat_ofNat]; exact Nat.mod_eq_of_lt (by omega)
theorem and127 (m : Nat) (h : m < 9223372036854775808) : bits .and .i64 (m : Int) 127 = ((m % 128 : Nat) : Int) := by
  have hx : m &&& 127 = m % 128 := by
    rw [show (127 : Nat) = 2 ^ 7 - 1 from rfl, Nat.and_two_pow_sub_one_eq_mod]
  show IntKind.i64.wrap ((BitVec.ofInt 64 (m : Int) &&& BitVec.ofInt 64 ((127 : Nat) : Int)).toNat : Int) = _
  rw [BitVec.toNat_and, bv_i64 m h, bv_i64 127 (by omega), hx, IntKind.wrap_i64]
  omega
theorem or128 (m : Nat) (h : m < 128) : bits .or .u8 (m : Int) 128 = ((128 + m : Nat) : Int) := by
  have : ∀ k : Fin 128, bits .or .u8 (k.val : Int) 128 = ((128 + k.val : Nat) : Int) := by decide +kernel
  exact this ⟨m, h⟩
theorem low_cell (m : Nat) (h : m < 9223372036854775808) : Value.int .u8 (bits .and .i64 (m : Int) 127 % 256) = encB (byt (m % 128)) := by
  rw [and127 m h, encB, byt_toNat]
  congr 1

theorem high_cell (m : Nat) (h : m < 9223372036854775808) : Value.int .u8 (bits .or .u8 (bits .and .i64 (m : Int) 127 % 256) 128) = encB (byt (128 + m % 128)) := by
  rw [and127 m h, encB, byt_toNat, show ((m % 128 : Nat) : Int) % 256 = ((m % 128 : Nat) : Int) by omega, or128 _ (by omega)]
  congr 1
  omega

theorem arr9 : Try.prog.underlying 68 = some (.array 9 5) := by kernel_rfl
theorem slice_arr (P : Program) (t e n : Nat) (info : TypeInfo) (ht : P.underlying t = some (.array n e)) (hi : P.info? e = some info) (h1 : info.size = 1) (g i : Nat) (hin : i < n) (W : World) :
    (Instr.sliceAt t (.pointer (some ⟨g, 0, none⟩)) (some (.int .i64 (i : Int))) none none).run P W = .ok (.slice (some ⟨g, i, none⟩) (n - i) (n - i)) W := by
  have hb : (Instr.sliceBound (.int .i64 (i : Int)) n .sliceB).run P W = .ok i W := by
    have := @run_sliceBound P W .i64 (i : Int) n .sliceB (by omega) (by omega)
    simpa using this
  have hne : ¬ n = i := by omega
  simp [Instr.sliceAt, Instr.sureAddr, run_underlying ht, Instr.sliceBounds, hb, sizeOf, typeInfo, hi, h1, hne, add_lit0]

set_option maxHeartbeats 400000 in
theorem Number_nat (w : World) (S : Nat → Prop) (v : Value) (bs : List UInt8) (n : Nat) (hr : Rs kByte w S v bs) (hn : n ≤ 9223372036854775807) (hsz : bs.length + 9 ≤ 140737488355328) (z : Int) (hz : (n : Int) = max z 0) (hz1 : z ≤ n):
    Calls Try.prog 14 #[v, .int .i64 z] w fun e w' => ∃ u, e = .returned u ∧ Ow kByte 5 w' w.heap.size (w.heap.size ≤ ·) u (bs ++ digs n) ∧ Ext w w' := by
  have HR := Lib.hid hr.under
  clear hr
  obtain ⟨A, c, rfl, hl, hc, hzl, hrow⟩ := HR.out
  clear hrow
  have Hz := Lib.hid hz
  clear hz
  have hmx : (if z < 0 then 0 else z) = (n : Int) := by rw [Hz.out]; split <;> omega
  go_enter Try.func14, Try.ntmps14
  go_wp2
  have hlow := low_cell n (by omega)
  rw [hlow]
  go_loopw [1, 6] (fun x y wr => ∃ (m i : Nat) (acc : List UInt8), x = .int .i64 m ∧ y = .int .i64 i ∧ acc.length + i = 9 ∧ i ≤ 8 ∧ m < 128 ^ i ∧ Hid (hi m ++ acc = digs n) ∧
    Hid (wr.heap[w.heap.size]? = some (.cells (grp i acc) 68 (0, 0))) ∧ Hid (Ext w wr)) (fun x _ _ => (intOf x).toNat)
  case atStart =>
    refine ⟨n / 128, 8, [byt (n % 128)], by go_num, rfl, rfl, by omega, by omega, Lib.hid rfl, Lib.hid ?_, Lib.hid ((Ext.refl w).alloc _)⟩
    exact heap_alloc_new w _
  case round =>
    obtain ⟨m, i, acc, rfl, rfl, hlen, hi8, hm, HA, HB, HE⟩ := hrel
    by_cases hpos : 0 < m
    · obtain ⟨i, rfl⟩ : ∃ i', i = i' + 1 := ⟨i - 1, by
        rcases Nat.eq_zero_or_pos i with h | h
        · subst h; simp at hm; omega
        · omega⟩
      have hm9 : m < 9223372036854775808 := Nat.lt_of_lt_of_le hm (Nat.le_trans (Nat.pow_le_pow_right (by omega) hi8) (by decide))
      have hc : wr.cell? ⟨w.heap.size, i, none⟩ = some (Value.int .u8 0) := by
        rw [cell_blk HB.out]; unfold grp; rw [List.getElem?_toArray, List.getElem?_append_left (by simp)]; simp
      have hf : wr.frozen? ⟨w.heap.size, i, none⟩ = false := frozen_blk HB.out i
      go_wp2
      rw [high_cell m hm9]
      go_roundw
      case rel =>
        refine ⟨m / 128, i, byt (128 + m % 128) :: acc, by go_num, rfl, by simp; omega, by omega, ?_, Lib.hid ?_, Lib.hid ?_, Lib.hid (HE.out.set (Nat.le_refl _) _)⟩
        · rw [Nat.pow_succ] at hm; exact Nat.div_lt_of_lt_mul (by omega)
        · rw [← HA.out, hi_pos m hpos]; simp
        · rw [heap_setCell_same wr _ _ _ _ _ HB.out, grp_set]
      case measure => simp [intOf]; omega
    · obtain rfl : m = 0 := by omega
      clear hpos hm
      have hs : ∀ W : World, (Instr.sliceAt 68 (.pointer (some ⟨w.heap.size, 0, none⟩)) (some (.int .i64 (i : Int))) none none).run Try.prog W = .ok (.slice (some ⟨w.heap.size, i, none⟩) (9 - i) (9 - i)) W := by
        obtain ⟨i0, hi0, _, h1, _⟩ := info_parts tBytes.info
        exact slice_arr _ _ _ 9 i0 arr9 hi0 h1 _ i (by omega)
      go_wp2_with fail
      refine (Join_calls _ (fun _ => True) _ [bs, acc] (Rs.two (heap_alloc_new _ _) trivial ((HR.out.ext (HE.out.alloc _)).mono fun _ _ => trivial) ?_) ?_).mono ?_
      · exact ⟨_, 9 - i, by rw [show 9 - i = acc.length by omega], by omega, by omega, by omega, Row.bytes_of ((Below.heap_alloc _ _ _ (blk_lt HB.out)).trans HB.out) trivial fun j x hj => grp_at i acc j x hj⟩
      · have hlen' : acc.length ≤ 9 := by omega
        simp [flen]; omega
      rintro e w' ⟨u, rfl, ho, he⟩
      have ho' := Lib.hid (Ow.lower (ho.mono (S' := (w.heap.size ≤ ·)) fun b hb => Nat.le_trans (HE.out.alloc _).le hb) (HE.out.alloc _).le)
      have he' := Lib.hid ((HE.out.alloc _).trans he)
      clear ho he
      go_wp2
      go_ret
      have hfl : [bs, acc].flatten = bs ++ digs n := by rw [← HA.out, hi_zero]; simp
      exact ⟨_, rfl, hfl ▸ ho'.out, he'.out⟩

theorem Number_calls (w : World) (S : Nat → Prop) (v : Value) (bs : List UInt8) (z : Int) (hr : Rs kByte w S v bs) (hn : I64 z) (hsz : bs.length + 9 ≤ 140737488355328) :
    Calls Try.prog 14 #[v, .int .i64 z] w fun e w' => ∃ u, e = .returned u ∧ Ow kByte 5 w' w.heap.size (w.heap.size ≤ ·) u (bs ++ digs z.toNat) ∧ Ext w w' := by
  obtain ⟨h0, h1⟩ := hn
  exact Number_nat w S v bs z.toNat hr (by omega) hsz z (by omega) (by omega)
end Go.Proofs.Ytikbpgcalmndoaa
