/-
  The walks of the statements WireNumbers, WireTexts.
-/
import Derived.Test.YtikbpgcalmndoaaRefNum
set_option linter.unusedVariables false
set_option linter.unusedSimpArgs false
namespace Go.Proofs.Ytikbpgcalmndoaa
open Go.RowKit

theorem digs_one : digs 1 = [byt 1] := digs_small 1 (by omega)

set_option maxHeartbeats 400000 in
theorem WireNumbers_walk (w : World) (S : Nat → Prop) (v : Value) (bs : List UInt8) (hr : Rs kByte w S v bs) (n : Int) (hn : I64 n) :
    Calls Try.prog 3 #[v, .int .i64 n] w fun e w' => e = .returned (.bool true) ∧ Ext w w' := by
  have HR := Lib.hid hr.under
  obtain ⟨A, c, rfl, hl, hc, hzl, hrow⟩ := hr
  clear hrow
  have HN := Lib.hid hn
  clear hn
  by_cases hbig : 131072 < bs.length
  · go_enter Try.func3, Try.ntmps3
    go_wp2_with fail
    refine (Number_calls _ (fun _ => True) _ [] 1 (Rs.nil _ _ _) ⟨by omega, by omega⟩ (by simp)).mono ?_
    rintro e w' ⟨u, rfl, ho, he⟩
    have hl1 : ([] ++ digs (1 : Int).toNat : List UInt8).length = 1 := by rw [show (1 : Int).toNat = 1 from rfl, digs_one]; rfl
    obtain ⟨A1, c1, rfl, _⟩ := ho.rs
    rw [hl1]
    have HE := Lib.hid he
    clear he ho hl1
    go_wp2
    go_ret
    exact ⟨rfl, HE.out⟩
  · have hle : bs.length ≤ 131072 := by omega
    clear hbig
    go_enter Try.func3, Try.ntmps3
    go_wp2_with fail
    refine (Clone_calls _ _ _ _ HR.out (by omega)).mono ?_
    rintro e w1 ⟨g1, rfl, ho1, he1⟩
    have HG := Lib.hid ho1.bound
    have HE1 := Lib.hid he1
    clear ho1 he1
    go_wp2_with fail
    refine (Number_calls _ _ _ _ n HG.out.rs HN.out (by omega)).mono ?_
    rintro e w2 ⟨x, rfl, ho2, he2⟩
    have HX := Lib.hid ho2
    have HG2 := Lib.hid (HG.out.ext he2)
    have HE2 := Lib.hid (HE1.out.trans he2)
    have hS2 : w.heap.size ≤ w1.heap.size := HE1.out.le
    have hS3 : w1.heap.size ≤ w2.heap.size := he2.le
    clear ho2 he2 HG HE1
    go_wp2_with fail
    refine (RefNumber_calls _ _ _ _ n (HR.out.ext HE2.out) HN.out (by omega)).mono ?_
    rintro e w3 ⟨y, rfl, ho3, he3⟩
    have HY := Lib.hid ho3
    have HX3 := Lib.hid (HX.out.ext he3)
    have HG3 := Lib.hid (HG2.out.ext he3)
    have HE3 := Lib.hid (HE2.out.trans he3)
    have hS4 : w2.heap.size ≤ w3.heap.size := he3.le
    clear ho3 he3 HX HG2 HE2
    go_wp2_with fail
    refine (Equal_same _ _ _ _ _ _ HX3.out.rs HY.out.rs).mono ?_
    rintro e w4 ⟨rfl, rfl⟩
    clear HY
    go_wp2_with (at_builtin; refine wpList_append_Rs kByte rfl (.tmp 24) (.tmp 25) 22 5 rfl tBytes w1.heap.size _ _ _ [byt 1] (w1.heap.size ≤ ·) _ rfl rfl (HX3.out.alloc _) (Rs.one_byte _ _ _ rfl _) (fun _ _ h => h) ?cn ?cb ?cz ?_)
    case cn => intro b hb; simp at hb; omega
    case cb => have := digs_len n.toNat (by have := HN.out.2; omega); simp; omega
    case cz => simp; omega
    intro v5 w5 ho5 hg5 _
    have hfar : ∀ k, x.ownBlock = some k → w1.heap.size ≤ k := HX3.out.from_
    have HG5 := Lib.hid ((HG3.out.alloc (.cells #[.int .u8 1] 5)).grown hg5 (fun k hk hh => by have := hfar k hk; omega))
    have HR5 := Lib.hid (((HR.out.ext HE3.out).alloc (.cells #[.int .u8 1] 5)).grown hg5 (fun k hk hh => by have := hfar k hk; omega))
    have HE5 := Lib.hid ((HE3.out.alloc (.cells #[.int .u8 1] 5)).grown hg5 (fun k hk => by have := hfar k hk; omega))
    clear hg5 hfar HX3 HG3 HE3 HR
    generalize hxs : bs ++ (digs n.toNat ++ [byt 1]) = xs at ho5
    have hpos : 0 < xs.length := by rw [← hxs]; simp only [List.length_append, List.length_singleton]; omega
    clear hxs
    obtain ⟨g, cap, rfl, hgb, hgl, hcap, _⟩ := ho5.form hpos
    have hcell := (ho5.scell 0 hpos).1
    have hfr := (ho5.scell 0 hpos).2
    clear ho5
    go_wp2_with fail
    have HGs := Lib.hid (HG5.out.seti (g := g) (i := 0) (fun h => by have := h.2; omega) (.int .u8 (bits .xor .u8 (xs[0].toNat : Int) 255)))
    have HRs := Lib.hid (HR5.out.seti (g := g) (i := 0) (fun h => by omega) (.int .u8 (bits .xor .u8 (xs[0].toNat : Int) 255)))
    have HEs := Lib.hid (HE5.out.seti (g := g) (i := 0) (by omega) (.int .u8 (bits .xor .u8 (xs[0].toNat : Int) 255)))
    refine (Equal_same _ _ _ _ _ _ HGs.out.rs HRs.out).mono ?_
    rintro e w6 ⟨rfl, rfl⟩
    go_wp2
    go_ret
    exact ⟨rfl, HEs.out⟩

set_option maxHeartbeats 400000 in
theorem WireTexts_walk (w : World) (S : Nat → Prop) (v : Value) (bs : List UInt8) (hr : Rs kByte w S v bs) (s : ByteArray) (b : Bool) :
    Calls Try.prog 4 #[v, .string s, .bool b] w fun e w' => e = .returned (.bool true) ∧ Ext w w' := by
  have HR := Lib.hid hr.under
  obtain ⟨A, c, rfl, hl, hc, hzl, hrow⟩ := hr
  clear hrow
  by_cases hbig : 131072 < bs.length ∨ 131072 < s.size
  · have h2 : ∀ h1 : 131072 < bs.length ∨ bs.length ≤ 131072 ∧ 131072 < s.size, Calls Try.prog 4 #[.slice A bs.length c, .string s, .bool b] w fun e w' => e = .returned (.bool true) ∧ Ext w w' := by
      intro h1
      rcases h1 with h1 | ⟨h1, h2⟩
      all_goals
        go_enter Try.func4, Try.ntmps4
        go_wp2_with fail
        refine (Text_calls _ (fun _ => True) _ [] ⟨#[97]⟩ (Rs.nil _ _ _) (by decide)).mono ?_
        rintro e w' ⟨u, rfl, ho, he⟩
        have hl1 : ([] ++ digs (⟨#[97]⟩ : ByteArray).size ++ (⟨#[97]⟩ : ByteArray).data.toList : List UInt8).length = 2 := by rw [show (⟨#[97]⟩ : ByteArray).size = 1 from rfl, digs_one]; rfl
        obtain ⟨A1, c1, rfl, _⟩ := ho.rs
        rw [hl1]
        have HE := Lib.hid he
        clear he ho hl1
        go_wp2
        go_ret
        exact ⟨rfl, HE.out⟩
    exact h2 (by omega)
  · have hle : bs.length ≤ 131072 := by omega
    have hls : s.size ≤ 131072 := by omega
    clear hbig
    go_enter Try.func4, Try.ntmps4
    go_wp2_with fail
    refine (Clone_calls _ _ _ _ HR.out (by omega)).mono ?_
    rintro e w1 ⟨g1, rfl, ho1, he1⟩
    have HG := Lib.hid ho1.rs
    have HE1 := Lib.hid he1
    clear ho1 he1
    go_wp2_with fail
    refine (Text_calls _ _ _ _ s HG.out (by omega)).mono ?_
    rintro e w2 ⟨x, rfl, ho2, he2⟩
    have HX := Lib.hid ho2.rs
    have HG2 := Lib.hid (HG.out.ext he2)
    have HE2 := Lib.hid (HE1.out.trans he2)
    clear ho2 he2 HG HE1
    go_wp2_with fail
    refine (Flag_calls _ _ _ _ b HG2.out (by omega)).mono ?_
    rintro e w3 ⟨y, rfl, ho3, he3⟩
    have HY := Lib.hid ho3.rs
    have HX3 := Lib.hid (HX.out.ext he3)
    have HG3 := Lib.hid (HG2.out.ext he3)
    have HE3 := Lib.hid (HE2.out.trans he3)
    clear ho3 he3 HX HG2 HE2
    go_wp2_with fail
    refine (RefText_calls _ _ _ _ s (HR.out.ext HE3.out) (by omega)).mono ?_
    rintro e w4 ⟨x', rfl, ho4, he4⟩
    have HX' := Lib.hid ho4.rs
    have HX4 := Lib.hid (HX3.out.ext he4)
    have HY4 := Lib.hid (HY.out.ext he4)
    have HG4 := Lib.hid (HG3.out.ext he4)
    have HE4 := Lib.hid (HE3.out.trans he4)
    clear ho4 he4 HX3 HY HG3 HE3
    go_wp2_with fail
    refine (Equal_same _ _ _ _ _ _ HX4.out HX'.out).mono ?_
    rintro e w5 ⟨rfl, rfl⟩
    go_wp2_with fail
    refine (RefFlag_calls _ _ _ _ b (HR.out.ext HE4.out) (by omega)).mono ?_
    rintro e w5 ⟨y', rfl, ho5, he5⟩
    have HY' := Lib.hid ho5.rs
    have HY5 := Lib.hid (HY4.out.ext he5)
    have HG5 := Lib.hid (HG4.out.ext he5)
    have HE5 := Lib.hid (HE4.out.trans he5)
    clear ho5 he5 HX4 HY4 HG4 HE4 HX'
    go_wp2_with fail
    refine (Equal_same _ _ _ _ _ _ HY5.out HY'.out).mono ?_
    rintro e w6 ⟨rfl, rfl⟩
    go_wp2_with fail
    refine (Equal_same _ _ _ _ _ _ HG5.out (HR.out.ext HE5.out)).mono ?_
    rintro e w6 ⟨rfl, rfl⟩
    go_wp2
    go_ret
    exact ⟨rfl, HE5.out⟩
end Go.Proofs.Ytikbpgcalmndoaa
