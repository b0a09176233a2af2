/-
  WireRecords.
-/
import Derived.Test.YtikbpgcalmndoaaRefPick
import Derived.Test.YtikbpgcalmndoaaBytes
set_option linter.unusedVariables false
set_option linter.unusedSimpArgs false
namespace Go.Proofs.Ytikbpgcalmndoaa
open Go.RowKit

theorem crc_nil : crc ([] : List (List UInt8)).flatten = 4294967295 := rfl
theorem SumNil_calls (w : World) : Calls Try.prog 22 #[.slice none 0 0] w fun e w' => e = .returned (.int .u32 4294967295) ∧ w = w' := by
  have := Sum_calls w (fun _ => True) _ [] (Rs.nil _ w _)
  rw [crc_nil] at this
  exact this

set_option maxRecDepth 100000 in
set_option maxHeartbeats 4000000 in
theorem WireRecords_walk (w : World) (S : Nat → Prop) (v : Value) (p : List UInt8) (hr : Rs kByte w S v p) (S2 : Nat → Prop) (v2 : Value) (b : List UInt8) (hr2 : Rs kByte w S2 v2 b) :
    Calls Try.prog 8 #[v, v2] w fun e w' => e = .returned (.bool true) ∧ Ext w w' := by
  have HP := Lib.hid hr.under
  have HB := Lib.hid hr2.under
  obtain ⟨A, c, rfl, hl, hc, hz, hrow⟩ := hr
  obtain ⟨A2, c2, rfl, hl2, hc2, hz2, hrow2⟩ := hr2
  clear hrow hrow2
  by_cases hbig : 131072 < p.length ∨ 131072 < b.length
  · have h2 : ∀ h1 : 131072 < p.length ∨ p.length ≤ 131072 ∧ 131072 < b.length, Calls Try.prog 8 #[.slice A p.length c, .slice A2 b.length c2] w fun e w' => e = .returned (.bool true) ∧ Ext w w' := by
      intro h1
      rcases h1 with h1 | ⟨h1, h2⟩
      all_goals
        go_enter Try.func8, Try.ntmps8
        go_wp2_with fail
        refine (SumNil_calls _).mono ?_
        rintro e w' ⟨rfl, rfl⟩
        go_wp2
        go_ret
        exact ⟨rfl, Ext.refl _⟩
    exact h2 (by omega)
  · have hle : p.length ≤ 131072 := by omega
    have hlb : b.length ≤ 131072 := by omega
    clear hbig
    go_enter Try.func8, Try.ntmps8
    go_wp2_with fail
    refine (Clone_calls _ _ _ _ HP.out (by omega)).mono ?_
    rintro e w1 ⟨g1, rfl, ho, he⟩
    have HG := Lib.hid ho.rs.under
    have HE1 := Lib.hid he
    clear ho he
    go_wp2_with fail
    refine (Clone_calls _ _ _ _ (HB.out.ext HE1.out) (by omega)).mono ?_
    rintro e w2 ⟨g2, rfl, ho, he⟩
    have HM := Lib.hid ho.rs.under
    have HG2 := Lib.hid (HG.out.ext he)
    have HE2 := Lib.hid (HE1.out.trans he)
    clear ho he HG HE1
    go_wp2_with fail
    refine (Record_calls _ _ _ _ HG2.out).mono ?_
    rintro e w3 ⟨x, rfl, ho, he⟩
    have HX := Lib.hid ho.rs.under
    have HM3 := Lib.hid (HM.out.ext he)
    have HG3 := Lib.hid (HG2.out.ext he)
    have HE3 := Lib.hid (HE2.out.trans he)
    clear ho he HG2 HM HE2
    go_wp2_with fail
    refine (RefRecord_calls _ _ _ _ (HP.out.ext HE3.out)).mono ?_
    rintro e w4 ⟨y, rfl, ho, he⟩
    have HY := Lib.hid ho.rs.under
    have HX4 := Lib.hid (HX.out.ext he)
    have HM4 := Lib.hid (HM3.out.ext he).under
    have HG4 := Lib.hid (HG3.out.ext he).under
    have HE4 := Lib.hid (HE3.out.trans he)
    clear ho he HG3 HM3 HE3 HX
    generalize record p = rec at HX4 HY
    obtain ⟨recp, rece⟩ := rec
    simp only at HX4 HY
    go_wp2_with fail
    refine (Pick_calls _ _ _ _ HM4.out).mono ?_
    rintro e w5 ⟨q, rfl, ho, he⟩
    have HQ := Lib.hid ho
    have HY5 := Lib.hid (HY.out.ext he)
    have HX5 := Lib.hid (HX4.out.ext he)
    have HM5 := Lib.hid (HM4.out.ext he)
    have HG5 := Lib.hid (HG4.out.ext he)
    have HE5 := Lib.hid (HE4.out.trans he)
    have h45 := he.le
    clear ho he HY HX4 HM4 HG4
    go_wp2_with fail
    refine (RefPick_calls _ _ _ _ (HB.out.ext HE5.out)).mono ?_
    rintro e w6 ⟨r, rfl, ho, he⟩
    have HRr := Lib.hid ho.rs
    have HQ6 := Lib.hid (HQ.out.ext he)
    have HY6 := Lib.hid (HY5.out.ext he)
    have HX6 := Lib.hid (HX5.out.ext he)
    have HM6 := Lib.hid (HM5.out.ext he)
    have HG6 := Lib.hid (HG5.out.ext he)
    have HE6 := Lib.hid (HE5.out.trans he)
    have h46 := Nat.le_trans h45 he.le
    have hsz : (pick b).1.length + 1 ≤ 140737488355328 := by have := pick_len b; omega
    clear ho he HQ HY5 HX5 HM5 HG5 HE5
    generalize pick b = pk at HQ6 HRr hsz
    obtain ⟨pq, pn, pe⟩ := pk
    simp only at HQ6 HRr hsz
    go_wp2_with fail
    refine (Equal_same _ _ _ _ _ _ HX6.out HY6.out).mono ?_
    rintro e w7 ⟨rfl, rfl⟩
    go_wp2_with fail
    refine (Equal_same _ _ _ _ _ _ HQ6.out.rs HRr.out).mono ?_
    rintro e w7 ⟨rfl, rfl⟩
    clear HX6 HY6 HRr
    go_wp2_with (at_builtin; refine wpList_append_Rs kByte rfl (.tmp 77) (.tmp 78) 22 5 rfl tBytes w4.heap.size _ _ _ [byt 1] (w4.heap.size ≤ ·) _ rfl rfl (HQ6.out.alloc _) (Rs.one_byte _ _ _ rfl _) (fun _ _ h => h) ?cn ?cb ?cz ?_)
    case cn => intro b hb; simp at hb; omega
    case cb => simp; omega
    case cz => simp; omega
    intro v8 w8 ho8 hg8 _
    have hfar : ∀ k, q.ownBlock = some k → w4.heap.size ≤ k := HQ6.out.from_
    have HG8 := Lib.hid ((HG6.out.alloc (.cells #[.int .u8 1] 5)).grown hg8 (fun k hk hh => by have := hfar k hk; omega))
    have HM8 := Lib.hid ((HM6.out.alloc (.cells #[.int .u8 1] 5)).grown hg8 (fun k hk hh => by have := hfar k hk; omega))
    have h4 := HE4.out.le
    have HE8 := Lib.hid ((HE6.out.alloc (.cells #[.int .u8 1] 5)).grown hg8 (fun k hk => by have := hfar k hk; omega))
    clear hg8 hfar HQ6 HG6 HM6 HE6
    generalize hxs : pq ++ [byt 1] = xs at ho8
    have hpos : 0 < xs.length := by rw [← hxs]; simp only [List.length_append, List.length_singleton]; omega
    clear hxs
    obtain ⟨g, cap, rfl, hgb, hgl, hcap, _⟩ := ho8.form hpos
    have hcell := (ho8.scell 0 hpos).1
    have hfr := (ho8.scell 0 hpos).2
    clear ho8
    go_wp2_with fail
    have HGs := Lib.hid (HG8.out.seti (g := g) (i := 0) (fun h => by omega) (.int .u8 (bits .xor .u8 (xs[0].toNat : Int) 255)))
    have HMs := Lib.hid (HM8.out.seti (g := g) (i := 0) (fun h => by omega) (.int .u8 (bits .xor .u8 (xs[0].toNat : Int) 255)))
    have HEs := Lib.hid (HE8.out.seti (g := g) (i := 0) (by omega) (.int .u8 (bits .xor .u8 (xs[0].toNat : Int) 255)))
    refine (Equal_same _ _ _ _ _ _ HGs.out (HP.out.ext HEs.out)).mono ?_
    rintro e w9 ⟨rfl, rfl⟩
    go_wp2_with fail
    refine (Equal_same _ _ _ _ _ _ HMs.out (HB.out.ext HEs.out)).mono ?_
    rintro e w9 ⟨rfl, rfl⟩
    go_wp2_with fail
    refine (SumNil_calls _).mono ?_
    rintro e w9 ⟨rfl, rfl⟩
    go_wp2
    go_ret
    exact ⟨rfl, HEs.out⟩
end Go.Proofs.Ytikbpgcalmndoaa
