/-
  The walk of the statement WireSums.
-/
import Derived.Test.YtikbpgcalmndoaaConcat
import Derived.Lib.SlBytesConst
import Derived.Lib.SmallJoins
set_option linter.unusedVariables false
set_option linter.unusedSimpArgs false
namespace Go.Proofs.Ytikbpgcalmndoaa
open Go.RowKit

def nine : List UInt8 := [49, 50, 51, 52, 53, 54, 55, 56, 57]
theorem crc_nine : crc nine = 58124007 := by decide +kernel
theorem Rs.bytes_lit (W : World) (g e : Nat) (fz : Nat × Nat) (hg : W.heap.size = g) (xs : List UInt8) (hl : xs.length ≤ 140737488355328) : Rs kByte (W.alloc (.cells (xs.map encB).toArray e fz)) (fun _ => True) (.slice (some ⟨g, 0, none⟩) xs.length xs.length) xs :=
  ⟨_, xs.length, rfl, Nat.le_refl _, by omega, hl, Row.bytes_of (heap_new W g hg _) trivial fun j x hj => by simp [hj, encB]⟩

theorem nine_cells : (nine.map encB).toArray = #[Value.int IntKind.u8 49, Value.int IntKind.u8 50, Value.int IntKind.u8 51, Value.int IntKind.u8 52, Value.int IntKind.u8 53, Value.int IntKind.u8 54, Value.int IntKind.u8 55, Value.int IntKind.u8 56, Value.int IntKind.u8 57] := rfl
theorem four_cells : (([49, 50, 51, 52] : List UInt8).map encB).toArray = #[Value.int IntKind.u8 49, Value.int IntKind.u8 50, Value.int IntKind.u8 51, Value.int IntKind.u8 52] := rfl
theorem five_cells : (([53, 54, 55, 56, 57] : List UInt8).map encB).toArray = #[Value.int IntKind.u8 53, Value.int IntKind.u8 54, Value.int IntKind.u8 55, Value.int IntKind.u8 56, Value.int IntKind.u8 57] := rfl
theorem Sum_nine (w : World) : Calls Try.prog 22 #[.slice (some ⟨w.heap.size + 1, 0, none⟩) 1 1]
    ((w.alloc (.cells #[Value.int IntKind.u8 49, Value.int IntKind.u8 50, Value.int IntKind.u8 51, Value.int IntKind.u8 52, Value.int IntKind.u8 53, Value.int IntKind.u8 54, Value.int IntKind.u8 55, Value.int IntKind.u8 56, Value.int IntKind.u8 57] 5 (9, 10))).alloc
      (.cells #[.slice (some ⟨w.heap.size, 0, none⟩) 9 9] 22)) fun e w' => e = .returned (.int .u32 58124007) ∧
    ((w.alloc (.cells #[Value.int IntKind.u8 49, Value.int IntKind.u8 50, Value.int IntKind.u8 51, Value.int IntKind.u8 52, Value.int IntKind.u8 53, Value.int IntKind.u8 54, Value.int IntKind.u8 55, Value.int IntKind.u8 56, Value.int IntKind.u8 57] 5 (9, 10))).alloc
      (.cells #[.slice (some ⟨w.heap.size, 0, none⟩) 9 9] 22)) = w' := by
  have h1 := Rs.bytes_lit w _ 5 (9, 10) rfl nine (by decide)
  rw [nine_cells] at h1
  refine (Sum_calls _ (fun _ => True) _ [nine] (Rs.one_ (heap_new _ _ (by simp) _) trivial (h1.alloc _))).mono ?_
  rintro e w' ⟨rfl, rfl⟩
  have h2 : ([nine] : List (List UInt8)).flatten = nine := rfl
  rw [h2, crc_nine]
  exact ⟨rfl, rfl⟩
theorem Sum_parts (w : World) : Calls Try.prog 22 #[.slice (some ⟨w.heap.size + 1 + 1, 0, none⟩) 2 2]
    (((w.alloc (.cells #[Value.int IntKind.u8 49, Value.int IntKind.u8 50, Value.int IntKind.u8 51, Value.int IntKind.u8 52] 5 (4, 5))).alloc
      (.cells #[Value.int IntKind.u8 53, Value.int IntKind.u8 54, Value.int IntKind.u8 55, Value.int IntKind.u8 56, Value.int IntKind.u8 57] 5 (5, 6))).alloc
      (.cells #[.slice (some ⟨w.heap.size, 0, none⟩) 4 4, .slice (some ⟨w.heap.size + 1, 0, none⟩) 5 5] 22)) fun e w' => e = .returned (.int .u32 58124007) ∧
    (((w.alloc (.cells #[Value.int IntKind.u8 49, Value.int IntKind.u8 50, Value.int IntKind.u8 51, Value.int IntKind.u8 52] 5 (4, 5))).alloc
      (.cells #[Value.int IntKind.u8 53, Value.int IntKind.u8 54, Value.int IntKind.u8 55, Value.int IntKind.u8 56, Value.int IntKind.u8 57] 5 (5, 6))).alloc
      (.cells #[.slice (some ⟨w.heap.size, 0, none⟩) 4 4, .slice (some ⟨w.heap.size + 1, 0, none⟩) 5 5] 22)) = w' := by
  have h1 := Rs.bytes_lit w _ 5 (4, 5) rfl [49, 50, 51, 52] (by decide)
  rw [four_cells] at h1
  have h2 := Rs.bytes_lit (w.alloc (.cells #[Value.int IntKind.u8 49, Value.int IntKind.u8 50, Value.int IntKind.u8 51, Value.int IntKind.u8 52] 5 (4, 5))) (w.heap.size + 1) 5 (5, 6) (by simp) [53, 54, 55, 56, 57] (by decide)
  rw [five_cells] at h2
  refine (Sum_calls _ (fun _ => True) _ [[49, 50, 51, 52], [53, 54, 55, 56, 57]] (Rs.two (heap_new _ _ (by simp) _) trivial ((h1.alloc _).alloc _) (h2.alloc _))).mono ?_
  rintro e w' ⟨rfl, rfl⟩
  have h2 : ([[49, 50, 51, 52], [53, 54, 55, 56, 57]] : List (List UInt8)).flatten = nine := rfl
  rw [h2, crc_nine]
  exact ⟨rfl, rfl⟩

set_option maxHeartbeats 1000000 in
theorem WireSums_walk (w : World) (S : Nat → Prop) (v : Value) (ls : List (List UInt8)) (hr : Rs (kSlice kByte) w S v ls) :
    Calls Try.prog 5 #[v] w fun e w' => e = .returned (.bool true) ∧ Ext w w' := by
  have HR0 := Lib.hid hr.under
  obtain ⟨A, c, rfl, hl, hc, hzl, hrow⟩ := hr.under
  have HR := Lib.hid hrow
  clear hrow hr
  have kc := fun (W : World) (C : Array Value) (n c : Nat) => Lib.run_convert_bytes_const (P := Try.prog) W 22 5 C n c Try.underlying22 Try.underlying5
  have kc1 := fun (W : World) (o : Obj) (C : Array Value) (n c : Nat) => Joins.run_convert_bytes_const_at (P := Try.prog) (W.alloc o) 22 5 C n c (W.heap.size + 1) (by simp) Try.underlying22 Try.underlying5
  go_enter Try.func5, Try.ntmps5
  go_wp2
  go_loop [3, 4] (fun x i => ∃ k : Nat, k ≤ ls.length ∧ i = .int .i64 k ∧ x = .int .i64 ((k + flen (ls.take k) : Nat) : Int) ∧ k + flen (ls.take k) ≤ 140737488486401) (fun _ i => ls.length - (intOf i).toNat)
  case atStart => exact ⟨0, Nat.zero_le _, rfl, by simp [flen], by simp [flen]⟩
  case round =>
    obtain ⟨k, hk, rfl, rfl, hsm⟩ := hrel
    generalize hn : k + flen (ls.take k) = n at hsm
    by_cases hsmall : n ≤ 131072
    · by_cases hlt : k < ls.length
      · obtain ⟨ad, u, rfl, hcell, hu⟩ := HR.out.slice hlt
        obtain ⟨A1, c1, rfl, hl1, hc1, hz1, hrow1⟩ := hu
        have h2 := flen_succ ls k hlt
        have H2 := Lib.hid h2
        have HN := Lib.hid hn
        clear hrow1 h2 hn
        go_wp2
        go_round
        case rel =>
          refine ⟨k + 1, by omega, by go_num, ?_, by rw [H2.out]; have := HN.out; omega⟩
          rw [H2.out, ← HN.out]; go_num
        case measure => simp [intOf]; omega
      · obtain rfl : k = ls.length := by omega
        rw [List.take_length] at hn
        have hfl : flen ls ≤ 131072 := by omega
        clear hlt hn
        go_wp2_with fail
        refine (Join_calls _ _ _ _ HR0.out (by omega)).mono ?_
        rintro e w1 ⟨u, rfl, ho, he⟩
        generalize hflat : ls.flatten = fl at ho
        have HF := Lib.hid hflat
        clear hflat
        have HU := Lib.hid ho.rs
        obtain ⟨A2, c2, rfl, hu1, hu2, hu3, hu4⟩ := ho.rs
        clear hu1 hu2 hu3 hu4
        have HE := Lib.hid he
        have HR1 := Lib.hid (HR0.out.ext he)
        clear ho he
        go_wp2_with fail
        refine (Sum_calls _ _ _ _ HR1.out).mono ?_
        rintro e w2 ⟨rfl, rfl⟩
        rw [HF.out]
        go_wp2_with fail
        refine (RefSum_calls _ _ _ _ HU.out).mono ?_
        rintro e w2 ⟨rfl, rfl⟩
        have HC := Lib.hid (crc_lt fl)
        generalize hcr : crc fl = cr at HC
        have HCR := Lib.hid hcr
        clear hcr
        go_wp2_with fail
        refine (Sum_calls _ (fun _ => True) _ [fl] (Rs.one_ (heap_alloc_new _ _) trivial ((HU.out.alloc _).mono fun _ _ => trivial))).mono ?_
        rintro e w2 ⟨rfl, rfl⟩
        have hjj : ([fl] : List (List UInt8)).flatten = fl := by simp
        rw [hjj, HCR.out]
        clear hjj
        go_wp2_with fail
        refine (Sum_calls _ _ _ _ (HR1.out.alloc _)).mono ?_
        rintro e w2 ⟨rfl, rfl⟩
        rw [HF.out, HCR.out]
        go_wp2_with fail
        refine (Concat_calls _ _ _ _ (HR1.out.alloc _) (by omega)).mono ?_
        rintro e w3 ⟨u3, rfl, ho3, he3⟩
        rw [HF.out] at ho3
        have HU3 := Lib.hid ho3.rs
        have HU1 := Lib.hid ((HU.out.alloc (.cells #[.slice A2 fl.length c2] 22)).ext he3)
        have HE3 := Lib.hid ((HE.out.alloc (.cells #[.slice A2 fl.length c2] 22)).trans he3)
        clear ho3 he3
        go_wp2_with fail
        refine (Equal_same _ _ _ _ _ _ HU1.out HU3.out).mono ?_
        rintro e w4 ⟨rfl, rfl⟩
        go_wp2_with fail
        refine (Sum_parts _).mono ?_
        rintro e w4 ⟨rfl, rfl⟩
        go_wp2
        go_ret
        exact ⟨rfl, ((HE3.out.alloc _).alloc _).alloc _⟩
    · clear hn
      have hbig : 131072 < n := by omega
      clear hsmall
      by_cases hlt : k < ls.length
      all_goals
        go_wp2_with fail
        refine (Sum_nine _).mono ?_
        rintro e w4 ⟨rfl, rfl⟩
        go_wp2
        go_ret
        exact ⟨rfl, ((Ext.refl _).alloc _).alloc _⟩
end Go.Proofs.Ytikbpgcalmndoaa
