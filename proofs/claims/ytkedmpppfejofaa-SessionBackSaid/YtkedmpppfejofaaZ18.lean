/-
  Texts of this claim, put together: SessionBack.
-/
import Derived.Test.YtkedmpppfejofaaZ17
set_option linter.unusedVariables false
set_option linter.unusedSimpArgs false
namespace Go.Proofs.Ytkedmpppfejofaa
open Go.RowKit

set_option maxRecDepth 100000 in
set_option maxHeartbeats 4000000 in
theorem SessionBack_walk (w : World) (S0 : Nat → Prop) (v0 : Value) (l : List SDoS) (h0 : Rs kSDo w S0 v0 l) (S : Nat → Prop) (v : Value) (b : List UInt8) (hr : Rs kByte w S v b) :
    Calls Try.prog 9 #[v0, v] w fun e w' => e = .returned (.bool true) ∧ Ext w w' := by
  have HR := Lib.hid hr
  have H0 := Lib.hid h0
  obtain ⟨A, c, rfl, -⟩ := hr
  obtain ⟨A0, c0, rfl, -⟩ := h0
  have awk : ∀ W : World, Ext w W → Calls Try.prog 13 #[] W fun e w' => e = .returned (.bool true) ∧ Hid (Ext w w') := fun W hW => (awake_calls W).mono fun _ _ h => ⟨h.1, Lib.hid (hW.trans h.2)⟩
  go_enter Try.func9, Try.ntmps9
  by_cases ha : 200 < l.length
  · go_wp2_with fail
    refine (awk _ (Ext.refl _)).mono ?_
    rintro e w' ⟨rfl, HE⟩
    go_wp2_with fail
    go_ret
    exact ⟨rfl, HE.out⟩
  by_cases hb : 65536 < b.length
  · go_wp2_with fail
    refine (awk _ (Ext.refl _)).mono ?_
    rintro e w' ⟨rfl, HE⟩
    go_wp2_with fail
    go_ret
    exact ⟨rfl, HE.out⟩
  go_wp2_with fail
  refine (play_calls w _ _ l H0.out).mono ?_
  rintro e w1 ⟨p, b1, -, -, rfl, ht, hx⟩
  have HT1 := Lib.hid ht
  have HX1 := Lib.hid hx
  have HOK := Lib.hid (playS_ok l)
  generalize playS l = L at *
  clear ht hx
  go_wp2_with fail
  refine (Image_calls w1 p b1 L HOK.out HT1.out).mono ?_
  rintro e w2 ⟨u, rfl, ho, hx⟩
  have HI2 := Lib.hid ho.rs
  have HX2 := Lib.hid (HX1.out.trans hx)
  have HT2 := Lib.hid (HT1.out.ext hx)
  have HLN := Lib.hid (show (imgL L).length ≤ 65536 by
    have h1 := (digs_len L.length (by have := HOK.out.len; omega)).2
    have h2 := imgT_len L HOK.out.i
    have h3 := HOK.out.len
    unfold imgL
    rw [List.length_append]
    omega)
  clear ho hx HT1
  go_wp2_with fail
  refine (Load_calls w2 _ u (imgL L) HI2.out HLN.out).mono ?_
  rintro e w3 ⟨r, hld, hout, hx⟩
  obtain rfl := (LdR.yes HOK.out).uniq hld
  obtain ⟨p3, b3, -, -, rfl, ht⟩ := hout
  have HT3 := Lib.hid (HT2.out.ext hx)
  have HU3 := Lib.hid ht
  have HX3 := Lib.hid (HX2.out.trans hx)
  clear hld hx ht
  go_wp2_with fail
  refine (Seats_calls w3 p b1 L HOK.out.rise HOK.out.i HOK.out.len1 HT3.out).mono ?_
  rintro e w4 ⟨u4, rfl, ho, hx⟩
  have HX4 := Lib.hid (HX3.out.trans hx)
  have HU4 := Lib.hid (HU3.out.ext hx)
  have HS4 := Lib.hid ho.rs
  clear ho hx
  go_wp2_with fail
  refine (Seats_calls w4 p3 b3 L HOK.out.rise HOK.out.i HOK.out.len1 HU4.out).mono ?_
  rintro e w5 ⟨u5, rfl, ho, hx⟩
  have HX5 := Lib.hid (HX4.out.trans hx)
  have HS5 := Lib.hid (HS4.out.ext hx)
  have HR5 := Lib.hid ho.rs
  clear ho hx
  go_wp2_with fail
  refine (EqualS_calls w5 _ _ _ _ _ _ HS5.out HR5.out).mono ?_
  rw [eqL_self]
  rintro e w6 ⟨rfl, nn, rfl⟩
  have HX6 := Lib.hid (HX5.out.drewN nn)
  go_wp2_with fail
  refine (Load_calls _ _ _ b (HR.out.ext HX6.out) (by omega)).mono ?_
  rintro e w7 ⟨r, hld, hout, hx⟩
  have HLD := Lib.hid hld
  have HX7 := Lib.hid (HX6.out.trans hx)
  clear hld hx
  cases r with
  | none =>
    obtain rfl : e = .returned (.tuple #[.pointer none, .int .i64 83]) := hout
    go_wp2_with fail
    refine (awk _ HX7.out).mono ?_
    rintro e w' ⟨rfl, HE⟩
    go_wp2_with fail
    go_ret
    exact ⟨rfl, HE.out⟩
  | some M =>
    obtain ⟨p7, b7, -, -, rfl, ht⟩ := hout
    have HT7 := Lib.hid ht
    obtain ⟨hok, him⟩ := HLD.out.1 M rfl
    have HOM := Lib.hid hok
    have HIM := Lib.hid him
    clear ht hok him
    go_wp2_with fail
    refine (Image_calls w7 p7 b7 M HOM.out HT7.out).mono ?_
    rintro e w8 ⟨u8, rfl, ho, hx⟩
    have HX8 := Lib.hid (HX7.out.trans hx)
    have HI8 := Lib.hid (show Rs kByte w8 _ u8 b from HIM.out ▸ ho.rs)
    clear ho hx
    go_wp2_with fail
    refine (Equal_same w8 _ _ _ _ _ HI8.out (HR.out.ext HX8.out)).mono ?_
    rintro e w' ⟨rfl, rfl⟩
    go_wp2_with fail
    refine (awk _ HX8.out).mono ?_
    rintro e w' ⟨rfl, HE⟩
    go_wp2_with fail
    go_ret
    exact ⟨rfl, HE.out⟩
end Go.Proofs.Ytkedmpppfejofaa
