/-
  spandrelref01.Sum; slices.Grow and slices.Concat at []byte.
-/
import Derived.Test.YtikbpgcalmndoaaSum
import Derived.Test.YtikbpgcalmndoaaNumber
set_option linter.unusedVariables false
set_option linter.unusedSimpArgs false
namespace Go.Proofs.Ytikbpgcalmndoaa
open Go.RowKit

theorem xor_i64 (a b : Nat) (ha : a < 4294967296) (hb : b < 4294967296) : bits .xor .i64 (a : Int) (b : Int) = ((a ^^^ b : Nat) : Int) := by
  have hx := xor_lt ha hb
  show IntKind.i64.wrap ((BitVec.ofInt 64 (a : Int) ^^^ BitVec.ofInt 64 (b : Int)).toNat : Int) = _
  rw [BitVec.toNat_xor, bv_i64 a (by omega), bv_i64 b (by omega), IntKind.wrap_i64]
  omega

set_option maxHeartbeats 1000000 in
theorem RefSum_calls (w : World) (S : Nat → Prop) (v : Value) (bs : List UInt8) (hr : Rs kByte w S v bs) :
    Calls Try.prog 24 #[v] w fun e w' => e = .returned (.int .u32 (crc bs : Int)) ∧ w = w' := by
  obtain ⟨A, c, rfl, hl, hc, hzl, hrow⟩ := hr
  have HR := Lib.hid hrow
  clear hrow
  go_enter Try.func24, Try.ntmps24
  go_wp2
  go_loop [3, 8] (fun x i => ∃ k : Nat, k ≤ bs.length ∧ i = .int .i64 k ∧ ∃ z : Nat, x = .int .i64 (z : Int) ∧ z < 4294967296 ∧ Hid (z = crc (bs.take k))) (fun _ i => bs.length - (intOf i).toNat)
  case atStart => exact ⟨0, Nat.zero_le _, rfl, 4294967295, rfl, by omega, Lib.hid rfl⟩
  case round =>
    obtain ⟨k, hk, rfl, z, rfl, hz, HZ⟩ := hrel
    by_cases hlt : k < bs.length
    · obtain ⟨ad, rfl, hcell⟩ := HR.out.byte hlt
      have hb := (bs[k]).toNat_lt
      generalize hx : bs[k] = x at hcell hb
      have HX := Lib.hid hx
      clear hx
      go_wp2
      have hxx : bits .xor .i64 (z : Int) ((x.toNat : Int) * 16777216) = ((z ^^^ (x.toNat * 16777216) : Nat) : Int) := by
        rw [← xor_i64 _ _ hz (by omega)]; congr 1
      rw [hxx]
      have hy := crc_in x hz
      generalize hye : z ^^^ (x.toNat * 16777216) = y at hy
      have HY := Lib.hid hye
      clear hye hxx
      go_loop [3, 17] (fun x i => ∃ i' : Nat, i' ≤ 8 ∧ i = .int .i64 i' ∧ ∃ q : Nat, x = .int .i64 (q : Int) ∧ q < 4294967296 ∧ Hid (q = crcBits i' y)) (fun _ i => 8 - (intOf i).toNat)
      case atStart => exact ⟨0, by omega, rfl, y, rfl, hy, Lib.hid rfl⟩
      case round =>
        obtain ⟨i, hi, rfl, q, rfl, hq, HQ⟩ := hrel
        by_cases hi8 : i < 8
        · by_cases hbig : 4294967296 ≤ 2 * q
          · have hcb : crcBit q = (2 * q - 4294967296) ^^^ 79764919 := by unfold crcBit; rw [if_pos hbig]
            have h2 : bits .xor .i64 (2 * (q : Int) - 4294967296) 79764919 = ((crcBit q : Nat) : Int) := by
              rw [hcb]
              have h3 := xor_i64 (2 * q - 4294967296) 79764919 (by omega) (by omega)
              have e1 : 2 * (q : Int) - 4294967296 = ((2 * q - 4294967296 : Nat) : Int) := by omega
              rw [e1]
              exact h3
            have H2 := Lib.hid h2
            have hb1 : (4294967296 : Int) ≤ 2 * (q : Int) := by omega
            clear h2 hcb hbig
            go_wp2
            rw [H2.out]
            go_round
            case rel => exact ⟨i + 1, by omega, by go_num, crcBit q, rfl, crcBit_lt hq, Lib.hid (by rw [crcBits_succ, HQ.out])⟩
            case measure => simp [intOf]; omega
          · have hcb : crcBit q = 2 * q := by unfold crcBit; rw [if_neg hbig]
            have H2 := Lib.hid hcb
            have hb1 : decide ((4294967296 : Int) ≤ 2 * (q : Int)) = false := decide_eq_false (by omega)
            clear hcb hbig
            go_wp2
            go_round
            case rel => exact ⟨i + 1, by omega, by go_num, crcBit q, by rw [H2.out]; go_num, crcBit_lt hq, Lib.hid (by rw [crcBits_succ, HQ.out])⟩
            case measure => simp [intOf]; omega
        · obtain rfl : i = 8 := by omega
          clear hi8
          go_wp2
          go_round
          case rel => exact ⟨k + 1, by omega, by go_num, q, rfl, hq, Lib.hid (by rw [List.take_succ_eq_append_getElem hlt, crc, crcFrom_snoc, HX.out, HQ.out, ← HY.out, HZ.out]; rfl)⟩
          case measure => simp [intOf]; omega
    · obtain rfl : k = bs.length := by omega
      rw [List.take_length] at HZ
      clear hlt
      go_wp2
      go_ret
      exact ⟨by rw [← HZ.out]; rfl, rfl⟩
end Go.Proofs.Ytikbpgcalmndoaa
