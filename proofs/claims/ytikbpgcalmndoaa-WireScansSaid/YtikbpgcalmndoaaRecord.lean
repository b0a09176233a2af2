/-
  wire.four, wire.Record.
-/
import Derived.Test.YtikbpgcalmndoaaRecSpec
import Derived.Test.YtikbpgcalmndoaaSum
import Derived.Test.YtikbpgcalmndoaaTexts
set_option linter.unusedVariables false
set_option linter.unusedSimpArgs false
namespace Go.Proofs.Ytikbpgcalmndoaa
open Go.RowKit

theorem tArr : Try.prog.underlying 74 = some (.array 4 5) := by kernel_rfl
set_option maxHeartbeats 400000 in
theorem four_calls (w : World) (c : Nat) (hc : c < 4294967296) :
    Calls Try.prog 49 #[.int .u32 (c : Int)] w fun e w' => e = .returned (.agg ((be4 c).map encB).toArray) ∧ Ext w w' := by
  go_enter Try.func49, Try.ntmps49
  go_wp2_with fail
  refine bodyPost_ret (results_cell_row rfl _ _ _ _ _ _ (.array 4 5) rfl (heap_alloc_new _ _) tArr rfl (by kernel_rfl)) rfl ?_
  refine ⟨?_, (Ext.refl w).alloc _⟩
  have e1 : Value.int .u8 ((c : Int) / 16777216) = encB (byt (c / 16777216)) := by rw [← byteval _ (by omega)]; rfl
  have e2 : Value.int .u8 ((c : Int) / 65536 % 256) = encB (byt (c / 65536)) := by unfold encB; rw [byt_toNat]; rfl
  have e3 : Value.int .u8 ((c : Int) / 256 % 256) = encB (byt (c / 256)) := by unfold encB; rw [byt_toNat]; rfl
  have e4 : Value.int .u8 ((c : Int) % 256) = encB (byt c) := by unfold encB; rw [byt_toNat]; rfl
  rw [e1, e2, e3, e4]
  rfl

theorem Rs.four_ {w : World} {S : Nat → Prop} {g t : Nat} {fz : Nat × Nat} {x0 x1 x2 x3 : UInt8} (hb : w.heap[g]? = some (.cells #[encB x0, encB x1, encB x2, encB x3] t fz)) (hS : S g) :
    Rs kByte w S (.slice (some ⟨g, 0, none⟩) 4 4) [x0, x1, x2, x3] :=
  ⟨_, 4, rfl, by simp, by omega, by simp, Row.bytes_of hb hS fun j x hj => by
    match j, hj with
    | 0, hj => simp at hj; subst hj; rfl
    | 1, hj => simp at hj; subst hj; rfl
    | 2, hj => simp at hj; subst hj; rfl
    | 3, hj => simp at hj; subst hj; rfl⟩

set_option maxHeartbeats 400000 in
theorem Record_calls (w : World) (S : Nat → Prop) (v : Value) (p : List UInt8) (hr : Rs kByte w S v p) :
    Calls Try.prog 33 #[v] w fun e w' => ∃ u, e = .returned (.tuple #[u, .int .i64 ((record p).2 : Int)]) ∧ Ow kByte 5 w' w.heap.size (w.heap.size ≤ ·) u (record p).1 ∧ Ext w w' := by
  have HR := Lib.hid hr
  obtain ⟨A, c, rfl, hl, hc, hz, hrow⟩ := hr
  clear hrow
  by_cases hbig : 65536 < p.length
  · have hrec : record p = ([], 4) := by unfold record; rw [if_pos hbig]
    rw [hrec]
    clear hrec
    go_enter Try.func33, Try.ntmps33
    go_wp2_with fail
    go_ret2
    exact ⟨_, rfl, Ow.nil _ _ _ _ _, Ext.refl _⟩
  · have hrec : record p = (rcd p, 0) := by unfold record; rw [if_neg hbig]
    rw [hrec]
    clear hrec
    go_enter Try.func33, Try.ntmps33
    go_wp2_with fail
    have hone := Rs.one_byte w w.heap.size 5 rfl (byt 93)
    refine (Number_calls _ _ _ [byt 93] (p.length : Int) hone ⟨by omega, by omega⟩ (by simp)).mono ?_
    rintro e w1 ⟨u, rfl, ho, he⟩
    have hd := digs_len p.length (by omega)
    rw [Int.toNat_natCast] at ho
    obtain ⟨g, cap, rfl, hg1, hg2, hg3, hg4⟩ := ho.form (by simp)
    have HO := Lib.hid ho
    have HE := Lib.hid (((Ext.refl w).alloc _).trans he)
    clear ho he hone
    go_wp2_with fail
    have hl2 : ([byt 93] ++ digs p.length).length = (digs p.length).length + 1 := by simp [Nat.add_comm]
    rw [hl2] at HO
    refine (Sum_calls _ (fun _ => True) _ [byt 93 :: digs p.length, p] (Rs.two (heap_alloc_new _ _) trivial ((HO.out.rs.alloc _).mono fun _ _ => trivial) ((HR.out.ext HE.out).alloc _ |>.mono fun _ _ => trivial))).mono ?_
    rintro e w2 ⟨rfl, rfl⟩
    have hb : crc [byt 93 :: digs p.length, p].flatten = crc (body p) := by simp [body]
    have hcl := crc_lt (body p)
    rw [hb]
    generalize hX : crc (body p) = X at *
    have HX := Lib.hid hX
    clear hX hb
    go_wp2_with fail
    refine (four_calls _ X hcl).mono ?_
    rintro e w2 ⟨rfl, he⟩
    have HE2 := Lib.hid ((HE.out.alloc _).trans he)
    have HO2 := Lib.hid ((HO.out.alloc _).ext he)
    have HR2 := Lib.hid (((HR.out.ext HE.out).alloc _).ext he)
    simp only [be4, List.map_cons, List.map_nil, encB]
    clear he HR HO
    go_wp2_with fail
    have h4 : Rs kByte (w2.alloc (.cells #[encB (byt (X / 16777216)), encB (byt (X / 65536)), encB (byt (X / 256)), encB (byt X)] 74)) (fun _ => True) (.slice (some ⟨w2.heap.size, 0, none⟩) 4 4) (be4 X) :=
      Rs.four_ (heap_alloc_new _ _) trivial
    refine (Join_calls _ (fun _ => True) _ [byt 93 :: digs p.length, p, be4 X] (Rs.three (heap_alloc_new (w2.alloc _) _ |> fun h => by simpa using h) trivial (((HO2.out.rs.alloc _).alloc _).mono fun _ _ => trivial) (((HR2.out.alloc _).alloc _).mono fun _ _ => trivial) (h4.alloc _)) (by simp [flen, be4]; omega)).mono ?_
    rintro e w3 ⟨u, rfl, ho, he⟩
    have hb : [byt 93 :: digs p.length, p, be4 X].flatten = rcd p := by rw [← HX.out]; simp [rcd, body]
    have hE := ((HE2.out.alloc _).alloc _).trans he
    rw [hb] at ho
    have hle := HE2.out.le
    have HO3 := Lib.hid ((ho.lower (base' := w.heap.size) (by simp; omega)).mono (S' := (w.heap.size ≤ ·)) fun b hb => by simp at hb; omega)
    have HE3 := Lib.hid hE
    clear ho he hE h4 HO2 HR2
    go_wp2
    go_ret2
    exact ⟨_, rfl, HO3.out, HE3.out⟩
end Go.Proofs.Ytikbpgcalmndoaa
