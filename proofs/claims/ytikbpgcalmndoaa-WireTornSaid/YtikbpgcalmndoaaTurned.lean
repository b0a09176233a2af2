/-
  WireTurned.
-/
import Derived.Test.YtikbpgcalmndoaaPick
import Derived.Test.YtikbpgcalmndoaaLawRec
import Derived.Test.YtikbpgcalmndoaaBytes
set_option linter.unusedVariables false
set_option linter.unusedSimpArgs false
namespace Go.Proofs.Ytikbpgcalmndoaa
open Go.RowKit

theorem turned_at (L n : Nat) (a : Int) (h1 : n + 6 ≤ L) (h2 : L ≤ 200000) : ∃ J : Nat, wrap64 ((L : Int) - 1 - wrap64 ((IntKind.u64.wrap a).tmod ((n : Int) + 4))) = (J : Int) ∧ J < L ∧ L - (n + 4) ≤ J := by
  have hq : 0 ≤ IntKind.u64.wrap a := by rw [IntKind.wrap_u64]; omega
  rw [Int.tmod_eq_emod_of_nonneg hq]
  have h3 := Int.emod_nonneg (IntKind.u64.wrap a) (show (n : Int) + 4 ≠ 0 by omega)
  have h4 := Int.emod_lt_of_pos (IntKind.u64.wrap a) (show (0 : Int) < (n : Int) + 4 by omega)
  generalize (IntKind.u64.wrap a) % ((n : Int) + 4) = r at h3 h4
  have e1 : wrap64 r = r := IntWalk.wrap64_in _ (by omega)
  rw [e1]
  have e2 : wrap64 ((L : Int) - 1 - r) = (L : Int) - 1 - r := IntWalk.wrap64_in _ (by omega)
  rw [e2]
  exact ⟨((L : Int) - 1 - r).toNat, by omega, by omega, by omega⟩

theorem turned_byte (X : UInt8) (x : Int) : ∃ z : UInt8, bits .xor .u8 (X.toNat : Int) (IntKind.u64.wrap (1 + (IntKind.u64.wrap x).tmod 255) % 256) = (z.toNat : Int) ∧ z ≠ X := by
  have hq : 0 ≤ IntKind.u64.wrap x := by rw [IntKind.wrap_u64]; omega
  rw [Int.tmod_eq_emod_of_nonneg hq]
  have h3 := Int.emod_nonneg (IntKind.u64.wrap x) (show (255 : Int) ≠ 0 by omega)
  have h4 := Int.emod_lt_of_pos (IntKind.u64.wrap x) (show (0 : Int) < 255 by omega)
  generalize (IntKind.u64.wrap x) % 255 = r at h3 h4
  rw [IntKind.wrap_u64]
  obtain ⟨y, hy⟩ : ∃ y : Nat, (1 + r) % 18446744073709551616 % 256 = (y : Int) := ⟨(1 + r).toNat, by omega⟩
  rw [hy]
  have hy1 : 1 ≤ y ∧ y ≤ 255 := by omega
  have hX := X.toNat_lt
  have hxl : X.toNat ^^^ y < 256 := Nat.xor_lt_two_pow (n := 8) (by omega) (by omega)
  have hv : ∀ a : Nat, a < 256 → (BitVec.ofInt 8 (a : Int)).toNat = a := fun a ha => by
    rw [BitVec.ofInt_natCast, BitVec.toNat_ofNat]; exact Nat.mod_eq_of_lt (by omega)
  have hz : (byt (X.toNat ^^^ y)).toNat = X.toNat ^^^ y := by rw [byt_toNat]; omega
  refine ⟨byt (X.toNat ^^^ y), ?_, ?_⟩
  · show IntKind.u8.wrap ((BitVec.ofInt 8 (X.toNat : Int) ^^^ BitVec.ofInt 8 (y : Int)).toNat : Int) = _
    rw [BitVec.toNat_xor, hv _ (by omega), hv _ (by omega), IntKind.wrap_u8, hz]
    omega
  · intro e
    have h := congrArg UInt8.toNat e
    rw [hz] at h
    have := congrArg (X.toNat ^^^ ·) h
    simp only [← Nat.xor_assoc, Nat.xor_self, Nat.zero_xor] at this
    omega

set_option maxRecDepth 100000 in
set_option maxHeartbeats 1000000 in
theorem WireTurned_walk (w : World) (S : Nat → Prop) (v : Value) (p : List UInt8) (hr : Rs kByte w S v p) (at_ : Int) (hat : I64 at_) (x : Int) (hx : I64 x) :
    Calls Try.prog 7 #[v, .int .i64 at_, .int .i64 x] w fun e w' => e = .returned (.bool true) ∧ Ext w w' := by
  have HR := Lib.hid hr
  obtain ⟨A, c, rfl, hl, hc, hz, hrow⟩ := hr
  clear hrow
  by_cases hbig : 65536 < p.length
  · have hrec : record p = ([], 4) := by unfold record; rw [if_pos hbig]
    have HREC := Lib.hid hrec
    clear hrec
    go_enter Try.func7, Try.ntmps7
    go_wp2_with fail
    refine (Record_calls _ _ _ _ HR.out).mono ?_
    rw [HREC.out]
    rintro e w1 ⟨u, rfl, ho, he⟩
    have HE := Lib.hid he
    clear ho he
    go_wp2
    go_ret
    exact ⟨rfl, HE.out⟩
  · have hrec : record p = (rcd p, 0) := by unfold record; rw [if_neg hbig]
    have hlaw : ∀ (i : Nat) (h2 : i < (rcd p).length) (z : UInt8), (rcd p).length - (p.length + 4) ≤ i → (rcd p)[i] ≠ z → pick ((rcd p).set i z) = ([], 0, 11) :=
      fun i h2 z h1 hz => pick_turned p (by omega) i (by have := rcd_len p; omega) h2 z hz
    have hlen1 : p.length + 6 ≤ (rcd p).length := by have := rcd_len p; have := digs_len p.length (by omega); omega
    have hlen2 : (rcd p).length ≤ p.length + 14 := by have := rcd_len p; have := digs_len p.length (by omega); omega
    generalize rcd p = R at hrec hlaw hlen1 hlen2
    have HLAW := Lib.hid hlaw
    have HREC := Lib.hid hrec
    clear hrec hlaw
    go_enter Try.func7, Try.ntmps7
    go_wp2_with fail
    refine (Record_calls _ _ _ _ HR.out).mono ?_
    rw [HREC.out]
    rintro e w1 ⟨u, rfl, ho, he⟩
    have HE := Lib.hid he
    have HO := Lib.hid ho.rs
    obtain ⟨A1, c1, rfl, _⟩ := ho.rs
    clear ho he
    go_wp2_with fail
    refine (Clone_calls _ _ _ _ HO.out (by omega)).mono ?_
    rintro e w2 ⟨u, rfl, ho, he⟩
    obtain ⟨g, cap, rfl, hg1, hg2, hg3, hg4⟩ := ho.form (by omega)
    have HE2 := Lib.hid (HE.out.trans he)
    have HO2 := Lib.hid ho
    obtain ⟨J, hJ, hJ1, hJ2⟩ := turned_at R.length p.length at_ (by omega) (by omega)
    have hJi : (J : Int) < (R.length : Int) := by omega
    have hcell := (ho.scell J hJ1).1
    have hfr := (ho.scell J hJ1).2
    clear ho he HO
    go_wp2_with fail
    obtain ⟨z, hz1, hz2⟩ := turned_byte R[J] x
    rw [hz1]
    have hset := HO2.out.sset (P := fun _ => True) (enc := fun b : UInt8 => .int .u8 (b.toNat : Int)) (h1 := fun _ => rfl) J z trivial
    have HSET := Lib.hid hset.1
    have HE3 := Lib.hid (HE2.out.seti (g := g) (i := J) (Nat.le_trans HE.out.le hg1) (.int .u8 (z.toNat : Int)))
    have HP := Lib.hid (HLAW.out J hJ1 z hJ2 fun e => hz2 e.symm)
    have hRs := HSET.out.rs
    clear hset hcell hfr hz1 hz2
    refine (Pick_calls _ _ _ (R.set J z) hRs).mono ?_
    rw [HP.out]
    rintro e w4 ⟨u, rfl, ho, he⟩
    obtain ⟨A2, c2, rfl, _⟩ := ho.rs
    have HE4 := Lib.hid (HE3.out.trans he)
    clear ho he hRs
    go_wp2
    go_ret
    exact ⟨rfl, HE4.out⟩
end Go.Proofs.Ytikbpgcalmndoaa
