/-
  spandrelref01: Record, Read, Pick.
-/
import Derived.Test.YtikbpgcalmndoaaLawRec
import Derived.Test.YtikbpgcalmndoaaRefNum
import Derived.Test.YtikbpgcalmndoaaRefSum
import Derived.Test.YtikbpgcalmndoaaArr
import Derived.IntWalk
set_option linter.unusedVariables false
set_option linter.unusedSimpArgs false
namespace Go.Proofs.Ytikbpgcalmndoaa
open Go.RowKit

theorem be4_vals (c : Nat) (hc : c < 4294967296) : #[Value.int .u8 ((c : Int) / 16777216), .int .u8 ((c : Int) / 65536 % 256), .int .u8 ((c : Int) / 256 % 256), .int .u8 ((c : Int) % 256)] = #[encB (byt (c / 16777216)), encB (byt (c / 65536)), encB (byt (c / 256)), encB (byt c)] := by
  have e1 : Value.int .u8 ((c : Int) / 16777216) = encB (byt (c / 16777216)) := by rw [← byteval _ (by omega)]; rfl
  have e2 : Value.int .u8 ((c : Int) / 65536 % 256) = encB (byt (c / 65536)) := by unfold encB; rw [byt_toNat]; rfl
  have e3 : Value.int .u8 ((c : Int) / 256 % 256) = encB (byt (c / 256)) := by unfold encB; rw [byt_toNat]; rfl
  have e4 : Value.int .u8 ((c : Int) % 256) = encB (byt c) := by unfold encB; rw [byt_toNat]; rfl
  rw [e1, e2, e3, e4]
set_option maxHeartbeats 400000 in
theorem RefRecord_calls (w : World) (S : Nat → Prop) (v : Value) (p : List UInt8) (hr : Rs kByte w S v p) :
    Calls Try.prog 35 #[v] w fun e w' => ∃ u, e = .returned (.tuple #[u, .int .i64 ((record p).2 : Int)]) ∧ Ow kByte 5 w' w.heap.size (w.heap.size ≤ ·) u (record p).1 ∧ Ext w w' := by
  have HR := Lib.hid hr
  obtain ⟨A, c, rfl, hl, hc, hz, hrow⟩ := hr
  clear hrow
  by_cases hbig : 65536 < p.length
  · have hrec : record p = ([], 4) := by unfold record; rw [if_pos hbig]
    rw [hrec]
    clear hrec
    go_enter Try.func35, Try.ntmps35
    go_wp2_with fail
    go_ret2
    exact ⟨_, rfl, Ow.nil _ _ _ _ _, Ext.refl _⟩
  · have hrec : record p = (rcd p, 0) := by unfold record; rw [if_neg hbig]
    have HREC := Lib.hid hrec
    have hd := digs_len p.length (by omega)
    clear hrec
    go_enter Try.func35, Try.ntmps35
    go_wp2_with fail
    have hone := Rs.one_byte w w.heap.size 5 rfl (byt 93)
    refine (RefNumber_calls _ _ _ [byt 93] (p.length : Int) hone ⟨by omega, by omega⟩ (by simp)).mono ?_
    rintro e w1 ⟨u, rfl, ho, he⟩
    rw [Int.toNat_natCast] at ho
    have HO := Lib.hid (ho.lower (base' := w.heap.size) (by simp) |>.mono (S' := (w.heap.size ≤ ·)) fun b hb => by simp at hb; omega)
    have HE := Lib.hid (((Ext.refl w).alloc _).trans he)
    clear ho he hone
    go_wp2_with (at_builtin; refine wpList_append_Rs kByte rfl (.tmp 12) (.tmp 13) 22 5 rfl tBytes w.heap.size _ _ _ p (w.heap.size ≤ ·) S rfl rfl HO.out (HR.out.ext HE.out) (fun _ _ h => h) ?cn ?cb HE.out.le ?_)
    case cn => intro b hb; have := HE.out.le; omega
    case cb => simp; omega
    intro v2 w2 ho hg _
    have hb : (byt 93 :: (digs p.length ++ p)) = body p := rfl
    rw [hb] at ho
    have hbl := body_len p
    have HO2 := Lib.hid ho
    have HE2 := Lib.hid (HE.out.grown hg HO.out.from_)
    clear ho hg hb HO HE
    have hRC : rcd p = body p ++ be4 (crc (body p)) := rfl
    have HRC := Lib.hid hRC
    clear hRC
    generalize body p = bd at HO2 HRC hbl
    go_wp2_with fail
    refine (RefSum_calls _ _ _ bd HO2.out.rs).mono ?_
    rintro e w3 ⟨rfl, rfl⟩
    have hX := crc_lt bd
    generalize crc bd = X at hX HRC
    go_wp2_with (at_builtin; refine wpList_append_Rs kByte rfl (.tmp 18) (.tmp 33) 22 5 rfl tBytes w.heap.size _ _ bd (be4 X) (w.heap.size ≤ ·) (fun _ => True) rfl rfl (HO2.out.alloc _) ?cr2 (fun _ _ h => h) ?cn2 ?cb2 ?cz2 ?_)
    case cr2 => rw [be4_vals X hX]; exact Rs.four_ (heap_alloc_new _ _) trivial
    case cn2 => intro b hb; have := HE2.out.le; simp at hb; omega
    case cb2 => rw [be4_len]; omega
    case cz2 => have := HE2.out.le; simp; omega
    intro v4 w4 ho hg _
    have HO4 := Lib.hid ho
    have HE4 := Lib.hid ((HE2.out.alloc _).grown hg HO2.out.from_)
    clear ho hg
    go_wp2
    go_ret2
    rw [HREC.out, HRC.out]
    exact ⟨_, rfl, HO4.out, HE4.out⟩
end Go.Proofs.Ytikbpgcalmndoaa
