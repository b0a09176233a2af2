/-
  wire.Sum and the reference's: CRC-32 of parts.
-/
import Derived.Test.YtikbpgcalmndoaaJoin
import Derived.Test.YtikbpgcalmndoaaSumSpec
set_option linter.unusedVariables false
set_option linter.unusedSimpArgs false
namespace Go.Proofs.Ytikbpgcalmndoaa
open Go.RowKit

theorem bv_u32 (a : Nat) (ha : a < 4294967296) : (BitVec.ofInt 32 (a : Int)).toNat = a := by
  rw [BitVec.ofInt_natCast, BitVec.toNat_ofNat]; exact Nat.mod_eq_of_lt (by omega)
theorem xor_u32 (a b : Nat) (ha : a < 4294967296) (hb : b < 4294967296) : bits .xor .u32 (a : Int) (b : Int) = ((a ^^^ b : Nat) : Int) := by
  have hx := xor_lt ha hb
  show IntKind.u32.wrap ((BitVec.ofInt 32 (a : Int) ^^^ BitVec.ofInt 32 (b : Int)).toNat : Int) = _
  rw [BitVec.toNat_xor, bv_u32 a ha, bv_u32 b hb, IntKind.wrap_u32]
  omega

theorem bit_step (q : Nat) (h : q < 4294967296) : bits .xor .u32 ((q : Int) * 2 % 4294967296) (79764919 * ((q : Int) / 2147483648)) = ((crcBit q : Nat) : Int) := by
  unfold crcBit
  split
  · rename_i h1
    have h2 := xor_u32 (2 * q - 4294967296) 79764919 (by omega) (by omega)
    have e1 : (q : Int) * 2 % 4294967296 = ((2 * q - 4294967296 : Nat) : Int) := by omega
    have e2 : 79764919 * ((q : Int) / 2147483648) = ((79764919 : Nat) : Int) := by omega
    rw [e1, e2]
    exact h2
  · rename_i h1
    have h2 := xor_u32 (2 * q) 0 (by omega) (by omega)
    rw [Nat.xor_zero] at h2
    have e1 : (q : Int) * 2 % 4294967296 = ((2 * q : Nat) : Int) := by omega
    have e2 : 79764919 * ((q : Int) / 2147483648) = ((0 : Nat) : Int) := by omega
    rw [e1, e2]
    exact h2

set_option maxHeartbeats 1000000 in
theorem Sum_calls (w : World) (S : Nat → Prop) (v : Value) (ls : List (List UInt8)) (hr : Rs (kSlice kByte) w S v ls) :
    Calls Try.prog 22 #[v] w fun e w' => e = .returned (.int .u32 (crc ls.flatten : Int)) ∧ w = w' := by
  obtain ⟨A, c, rfl, hl, hc, hzl, hrow⟩ := hr
  have HR := Lib.hid hrow
  clear hrow
  go_enter Try.func22, Try.ntmps22
  go_wp2
  go_loop [3, 11] (fun x i => ∃ k : Nat, k ≤ ls.length ∧ i = .int .i64 k ∧ ∃ z : Nat, x = .int .u32 (z : Int) ∧ z < 4294967296 ∧ Hid (z = crc (ls.take k).flatten)) (fun _ i => ls.length - (intOf i).toNat)
  case atStart => exact ⟨0, Nat.zero_le _, rfl, 4294967295, rfl, by omega, Lib.hid rfl⟩
  case round =>
    obtain ⟨k, hk, rfl, z, rfl, hz, HZ⟩ := hrel
    by_cases hlt : k < ls.length
    · obtain ⟨ad, u, rfl, hcell, hu⟩ := HR.out.slice hlt
      obtain ⟨A1, c1, rfl, hl1, hc1, hz1, hrow1⟩ := hu
      have HR1 := Lib.hid hrow1
      clear hrow1
      go_wp2
      go_loop [3, 17] (fun x i => ∃ j : Nat, j ≤ ls[k].length ∧ i = .int .i64 j ∧ ∃ z' : Nat, x = .int .u32 (z' : Int) ∧ z' < 4294967296 ∧ Hid (z' = crcFrom z (ls[k].take j))) (fun _ i => ls[k].length - (intOf i).toNat)
      case atStart => exact ⟨0, Nat.zero_le _, rfl, z, rfl, hz, Lib.hid rfl⟩
      case round =>
        obtain ⟨j, hj, rfl, z', rfl, hz', HZ'⟩ := hrel
        by_cases hlt' : j < ls[k].length
        · obtain ⟨ad1, rfl, hcell1⟩ := HR1.out.byte hlt'
          have hb := (ls[k][j]).toNat_lt
          generalize hx : ls[k][j] = x at hcell1 hb
          have HX := Lib.hid hx
          clear hx
          go_wp2
          have hxx : bits .xor .u32 (z' : Int) ((x.toNat : Int) * 16777216) = ((z' ^^^ (x.toNat * 16777216) : Nat) : Int) := by
            rw [← xor_u32 _ _ hz' (by omega)]; congr 1
          rw [hxx]
          have hy := crc_in x hz'
          generalize hye : z' ^^^ (x.toNat * 16777216) = y at hy
          have HY := Lib.hid hye
          clear hye hxx
          go_loop [3, 26] (fun x i => ∃ i' : Nat, i' ≤ 8 ∧ i = .int .i64 i' ∧ ∃ q : Nat, x = .int .u32 (q : Int) ∧ q < 4294967296 ∧ Hid (q = crcBits i' y)) (fun _ i => 8 - (intOf i).toNat)
          case atStart => exact ⟨0, by omega, rfl, y, rfl, hy, Lib.hid rfl⟩
          case round =>
            obtain ⟨i, hi, rfl, q, rfl, hq, HQ⟩ := hrel
            by_cases hi8 : i < 8
            · go_wp2
              rw [bit_step q hq]
              go_round
              case rel => exact ⟨i + 1, by omega, by go_num, crcBit q, rfl, crcBit_lt hq, Lib.hid (by rw [crcBits_succ, HQ.out])⟩
              case measure => simp [intOf]; omega
            · obtain rfl : i = 8 := by omega
              clear hi8
              go_wp2
              go_round
              case rel => exact ⟨j + 1, by omega, by go_num, q, rfl, hq, Lib.hid (by rw [List.take_succ_eq_append_getElem hlt', crcFrom_snoc, HX.out, ← HZ'.out, HQ.out, ← HY.out]; rfl)⟩
              case measure => simp [intOf]; omega
        · obtain rfl : j = ls[k].length := by omega
          rw [List.take_length] at HZ'
          clear hlt'
          go_wp2
          go_round
          case rel => exact ⟨k + 1, by omega, by go_num, z', rfl, hz', Lib.hid (by rw [flat_take_succ ls k hlt, crc, crcFrom_append, HZ'.out, HZ.out]; rfl)⟩
          case measure => simp [intOf]; omega
    · obtain rfl : k = ls.length := by omega
      rw [List.take_length] at HZ
      clear hlt
      go_wp2
      go_ret
      exact ⟨by rw [← HZ.out]; rfl, rfl⟩
end Go.Proofs.Ytikbpgcalmndoaa
