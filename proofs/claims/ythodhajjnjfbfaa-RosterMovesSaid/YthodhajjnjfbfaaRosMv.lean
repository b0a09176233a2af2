/-
  The walk of RosterMoves.
-/
import Derived.Test.YthodhajjnjfbfaaRosMoves
set_option linter.unusedVariables false
set_option linter.unusedSimpArgs false
namespace Go.Proofs.Ythodhajjnjfbfaa
open Go.RowKit

set_option maxRecDepth 100000 in
set_option maxHeartbeats 4000000 in
theorem RosterMoves_walk (w : World) (S1 : Nat → Prop) (v1 : Value) (l : List Int) (h1 : Rs kInt w S1 v1 l) (n : Int) (hn : I64 n) :
    Calls Try.prog 9 #[v1, .int .i64 n] w fun e w' => e = .returned (.bool true) ∧ Ext w w' := by
  obtain ⟨A1, c1, rfl⟩ := h1.isS
  have H1 := Lib.hid h1.under
  have HN := Lib.hid hn
  clear h1 hn
  go_enter Try.func9, Try.ntmps9
  go_wp2_with fail
  refine (light_calls _ _ _ [l] (Rs.one_ (heap_new w _ rfl _) trivial ((H1.out.alloc _).mono fun _ _ => trivial))).mono ?_
  rintro e w1 ⟨rfl, hw⟩
  have HE := Lib.hid (hw ▸ (Ext.refl w).alloc _ : Ext w w1)
  clear hw
  cases hL : lightB [l]
  · have HL := Lib.hid hL
    clear hL
    go_wp2_with fail
    refine (awake_calls _).mono ?_
    rintro e wz ⟨rfl, hez⟩
    have HEZ := Lib.hid (HE.out.trans hez)
    clear hez
    go_wp2
    go_ret
    exact ⟨rfl, HEZ.out⟩
  · have HB := Lib.hid (lightB_mem hL (List.mem_singleton.2 rfl))
    clear hL
    go_wp2_with fail
    refine (CloneI_calls _ _ _ l (H1.out.ext HE.out) (by have := HB.out; omega)).mono ?_
    rintro e w2 ⟨g0, rfl, ho, he⟩
    have HG := Lib.hid ho.bound.rs
    replace HE := Lib.hid (HE.out.trans he)
    have hw1 : w.heap.size ≤ w2.heap.size := HE.out.le
    clear ho he
    go_wp2_with fail
    refine (Join2_calls _ _ _ l HG.out n HN.out (by have := HB.out; omega)).mono ?_
    rintro e w3 ⟨a, rfl, ho, he⟩
    have hl3 : w2.heap.size ≤ w3.heap.size := he.le
    have HAo := Lib.hid (show Ow kInt 3 w3 w2.heap.size (fun b => a.ownBlock = some b) a (joinL l n) from ho.own)
    have HG3 := Lib.hid (HG.out.ext he)
    have HE3 := Lib.hid (HE.out.trans he)
    clear ho he HG HE
    go_wp2_with fail
    refine (Leave_calls _ _ _ l HG3.out n (by have := HB.out; omega)).mono ?_
    rintro e w4 ⟨b, rfl, ho, he⟩
    have hl4 : w3.heap.size ≤ w4.heap.size := he.le
    have HBo := Lib.hid (show Ow kInt 3 w4 w3.heap.size (fun x => b.ownBlock = some x) b (leaveL l n) from ho.own)
    have HA4 := Lib.hid (HAo.out.ext he)
    have HG4 := Lib.hid (HG3.out.ext he)
    have HE4 := Lib.hid (HE3.out.trans he)
    have HAP : Hid (Apart a b) := Lib.hid (fun k hk h => by have := HAo.out.lt k hk; have := HBo.out.from_ k h; omega)
    clear ho he HAo HG3 HE3
    go_wp2_with fail
    refine (RefJoin_calls _ _ _ l (H1.out.ext HE4.out) n HN.out (by have := HB.out; omega)).mono ?_
    rintro e w5 ⟨x, rfl, ho, he⟩
    have HX := Lib.hid ho
    have HA5 := Lib.hid (HA4.out.ext he)
    have HB5 := Lib.hid (HBo.out.ext he)
    have HG5 := Lib.hid (HG4.out.ext he)
    have HE5 := Lib.hid (HE4.out.trans he)
    clear ho he HA4 HBo HG4 HE4
    go_wp2_with fail
    refine (EqualI_calls _ _ _ _ _ _ _ HA5.out.rs HX.out).mono ?_
    rw [eqL_self]; rintro e w6 ⟨rfl, m, hw⟩
    have HA6 := Lib.hid (show Ow kInt 3 w6 w2.heap.size (fun b => a.ownBlock = some b) a (joinL l n) from hw ▸ HA5.out.drewN m)
    have HB6 := Lib.hid (show Ow kInt 3 w6 w3.heap.size (fun x => b.ownBlock = some x) b (leaveL l n) from hw ▸ HB5.out.drewN m)
    have HG6 := Lib.hid (show Rs kInt w6 (fun b => w1.heap.size ≤ b ∧ b < w2.heap.size) g0 l from hw ▸ HG5.out.drewN m)
    have HE6 := Lib.hid (show Ext w w6 from hw ▸ HE5.out.drewN m)
    clear hw HA5 HB5 HG5 HE5 HX
    go_wp2_with fail
    refine (RefLeave_calls _ _ _ l (H1.out.ext HE6.out) n (by have := HB.out; omega)).mono ?_
    rintro e w7 ⟨y, rfl, ho, he⟩
    have HY := Lib.hid ho.rs
    have HA7 := Lib.hid (HA6.out.ext he)
    have HB7 := Lib.hid (HB6.out.ext he)
    have HG7 := Lib.hid (HG6.out.ext he)
    have HE7 := Lib.hid (HE6.out.trans he)
    clear ho he HA6 HB6 HG6 HE6
    go_wp2_with fail
    refine (EqualI_calls _ _ _ _ _ _ _ HB7.out.rs HY.out).mono ?_
    rw [eqL_self]; rintro e w8 ⟨rfl, m2, hw⟩
    have HA8 := Lib.hid (show Ow kInt 3 w8 w2.heap.size (fun b => a.ownBlock = some b) a (joinL l n) from hw ▸ HA7.out.drewN m2)
    have HB8 := Lib.hid (show Ow kInt 3 w8 w3.heap.size (fun x => b.ownBlock = some x) b (leaveL l n) from hw ▸ HB7.out.drewN m2)
    have HG8 := Lib.hid (show Rs kInt w8 (fun b => w1.heap.size ≤ b ∧ b < w2.heap.size) g0 l from hw ▸ HG7.out.drewN m2)
    have HE8 := Lib.hid (show Ext w w8 from hw ▸ HE7.out.drewN m2)
    clear hw HA7 HB7 HG7 HE7 HY
    generalize joinL l n = ja at HA8
    generalize leaveL l n = lb at HB8
    obtain ⟨Aa, ca, rfl⟩ := HA8.out.rs.isS
    obtain ⟨Ab, cb, rfl⟩ := HB8.out.rs.isS
    obtain ⟨la, hla⟩ : ∃ la, la = ja.length := ⟨_, rfl⟩
    obtain ⟨lbn, hlb⟩ : ∃ lbn, lbn = lb.length := ⟨_, rfl⟩
    have hla47 : la ≤ 140737488355328 := by rw [hla]; exact HA8.out.2.1
    have hlb47 : lbn ≤ 140737488355328 := by rw [hlb]; exact HB8.out.2.1
    rw [← hla] at HA8 HAP ⊢
    rw [← hlb] at HB8 HAP ⊢
    have HLA := Lib.hid hla
    have HLB := Lib.hid hlb
    clear hla hlb
    go_wp2_with fail
    go_loopw [38] (fun i wr => ∃ (k : Nat) (xs : List Int), i = .int .i64 k ∧ k ≤ la ∧ Hid (xs.length = la) ∧ Hid (Ow kInt 3 wr w2.heap.size (fun b => (Value.slice Aa la ca).ownBlock = some b) (.slice Aa la ca) xs) ∧ Hid (Ow kInt 3 wr w3.heap.size (fun x => (Value.slice Ab lbn cb).ownBlock = some x) (.slice Ab lbn cb) lb) ∧ Hid (Rs kInt wr (fun b => w1.heap.size ≤ b ∧ b < w2.heap.size) g0 l) ∧ Hid (Ext w wr)) (fun i _ => la - (intOf i).toNat)
    case atStart => exact ⟨0, ja, rfl, by omega, Lib.hid HLA.out.symm, HA8, HB8, HG8, HE8⟩
    case round =>
      clear HA8 HB8 HG8 HE8
      obtain ⟨k, xs, rfl, hk, HXL, HA8, HB8, HG8, HE8⟩ := hrel
      by_cases hlt : k < la
      · have hxp : 0 < xs.length := by rw [HXL.out]; omega
        obtain ⟨g, cap, hf, hgb, hgl, hcap, _⟩ := HA8.out.form hxp
        injection hf with e1 e2 e3
        subst e1; subst e3
        have ho : Ow kInt 3 wr w2.heap.size (fun b => (Value.slice (some ⟨g, 0, none⟩) la ca).ownBlock = some b) (.slice (some ⟨g, 0, none⟩) xs.length ca) xs := by rw [HXL.out]; exact HA8.out
        have hc := (ho.scell k (by rw [HXL.out]; exact hlt)).1
        have hfr := (ho.scell k (by rw [HXL.out]; exact hlt)).2
        have HA9 := Lib.hid (show Ow kInt 3 (wr.setCell ⟨g, k, none⟩ (.int .i64 (-7))) w2.heap.size (fun b => (Value.slice (some ⟨g, 0, none⟩) la ca).ownBlock = some b) (.slice (some ⟨g, 0, none⟩) la ca) (xs.set k (-7)) from by
          have := (ho.sset k (-7) ⟨by omega, by omega⟩).1
          rw [HXL.out] at this
          exact this)
        have HB9 := Lib.hid (HB8.out.seti (g := g) (i := k) (fun h => HAP.out g rfl h) (.int .i64 (-7)))
        have HG9 := Lib.hid (HG8.out.seti (g := g) (i := k) (fun h => by omega) (.int .i64 (-7)))
        have HE9 := Lib.hid (HE8.out.seti (i := k) (Nat.le_trans hw1 hgb) (.int .i64 (-7)))
        have HXL9 := Lib.hid (show (xs.set k (-7)).length = la by rw [List.length_set, HXL.out])
        have hki : (k : Int) < (la : Int) := by omega
        clear ho e2
        generalize xs[k]'(by rw [HXL.out]; exact hlt) = z at hc
        go_wp2_with fail
        go_roundw
        case rel => exact ⟨k + 1, _, by go_num, by omega, HXL9, HA9, HB9, HG9, HE9⟩
        case measure => simp [intOf]; omega
      · obtain rfl : k = la := by omega
        clear hlt HA8 HXL
        go_wp2_with fail
        go_loopw [47] (fun i wr => ∃ (k : Nat) (xs : List Int), i = .int .i64 k ∧ k ≤ lbn ∧ Hid (xs.length = lbn) ∧ Hid (Ow kInt 3 wr w3.heap.size (fun x => (Value.slice Ab lbn cb).ownBlock = some x) (.slice Ab lbn cb) xs) ∧ Hid (Rs kInt wr (fun b => w1.heap.size ≤ b ∧ b < w2.heap.size) g0 l) ∧ Hid (Ext w wr)) (fun i _ => lbn - (intOf i).toNat)
        case atStart => exact ⟨0, lb, rfl, by omega, Lib.hid HLB.out.symm, HB8, HG8, HE8⟩
        case round =>
          clear HB8 HG8 HE8
          obtain ⟨k, xs, rfl, hk, HXL, HB8, HG8, HE8⟩ := hrel
          by_cases hlt : k < lbn
          · have hxp : 0 < xs.length := by rw [HXL.out]; omega
            obtain ⟨g, cap, hf, hgb, hgl, hcap, _⟩ := HB8.out.form hxp
            injection hf with e1 e2 e3
            subst e1; subst e3
            have ho : Ow kInt 3 wr w3.heap.size (fun b => (Value.slice (some ⟨g, 0, none⟩) lbn cb).ownBlock = some b) (.slice (some ⟨g, 0, none⟩) xs.length cb) xs := by rw [HXL.out]; exact HB8.out
            have hc := (ho.scell k (by rw [HXL.out]; exact hlt)).1
            have hfr := (ho.scell k (by rw [HXL.out]; exact hlt)).2
            have HB9 := Lib.hid (show Ow kInt 3 (wr.setCell ⟨g, k, none⟩ (.int .i64 (-8))) w3.heap.size (fun b => (Value.slice (some ⟨g, 0, none⟩) lbn cb).ownBlock = some b) (.slice (some ⟨g, 0, none⟩) lbn cb) (xs.set k (-8)) from by
              have := (ho.sset k (-8) ⟨by omega, by omega⟩).1
              rw [HXL.out] at this
              exact this)
            have HG9 := Lib.hid (HG8.out.seti (g := g) (i := k) (fun h => by omega) (.int .i64 (-8)))
            have HE9 := Lib.hid (HE8.out.seti (i := k) (Nat.le_trans (Nat.le_trans hw1 hl3) hgb) (.int .i64 (-8)))
            have HXL9 := Lib.hid (show (xs.set k (-8)).length = lbn by rw [List.length_set, HXL.out])
            have hki : (k : Int) < (lbn : Int) := by omega
            clear ho e2
            generalize xs[k]'(by rw [HXL.out]; exact hlt) = z at hc
            go_wp2_with fail
            go_roundw
            case rel => exact ⟨k + 1, _, by go_num, by omega, HXL9, HB9, HG9, HE9⟩
            case measure => simp [intOf]; omega
          · obtain rfl : k = lbn := by omega
            clear hlt HB8 HXL
            go_wp2_with fail
            refine (EqualI_calls _ _ _ _ _ _ l HG8.out (H1.out.ext HE8.out)).mono ?_
            rw [eqL_self]; rintro e w9 ⟨rfl, m3, hw⟩
            have HE := Lib.hid (show Ext w w9 from hw ▸ HE8.out.drewN m3)
            clear hw
            go_wp2_with fail
            refine (awake_calls _).mono ?_
            rintro e wz ⟨rfl, hez⟩
            have HEZ := Lib.hid (HE.out.trans hez)
            clear hez
            go_wp2
            go_ret
            exact ⟨rfl, HEZ.out⟩
end Go.Proofs.Ythodhajjnjfbfaa
