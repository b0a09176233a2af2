/-
  wire.Rows and the reference's.
-/
import Derived.Test.YtikbpgcalmndoaaRefPick
import Derived.Test.YtikbpgcalmndoaaRowsSpec
set_option linter.unusedVariables false
set_option linter.unusedSimpArgs false
namespace Go.Proofs.Ytikbpgcalmndoaa
open Go.RowKit

/-- Blocks of a row that is appended lie behind those of the row to which it is. -/
theorem apart_rows {α : Type} {w w1 : World} {d : Kd α} {e : TypeId} {base : Nat} {S T : Nat → Prop} {v : Value} {xs : List (List α)} (hown : Ow (kSlice d) e w base S v xs) (hT : ∀ b, T b → w.heap.size ≤ b ∧ S b) :
    ∀ y cs, (kSlice d).K w1 T y cs → (kSlice d).K w1 (fun b => S b ∧ some b ≠ v.ownBlock) y cs := fun y cs h =>
  (kSlice d).mono (fun b hb => ⟨(hT b hb).2, fun e => by have := hown.lt b e.symm; have := (hT b hb).1; omega⟩) h

set_option maxRecDepth 100000 in
set_option maxHeartbeats 4000000 in
theorem Rows_calls (w : World) (S : Nat → Prop) (v : Value) (b : List UInt8) (hr : Rs kByte w S v b) (hsz : b.length ≤ 1099511627776) :
    Calls Try.prog 41 #[v] w fun e w' => ∃ u, e = .returned (.tuple #[u, .int .i64 ((rows b).2 : Int)]) ∧ Ow (kSlice kByte) 22 w' w.heap.size (w.heap.size ≤ ·) u (rows b).1 ∧ Ext w w' := by
  have HR := Lib.hid hr
  obtain ⟨A, c, rfl, hl, hc, hz, hrow⟩ := hr
  clear hrow
  go_enter Try.func41, Try.ntmps41
  go_wp2_with fail
  go_loopw [4, 5] (fun u n wr => ∃ (k : Nat) (acc : List (List UInt8)), n = .int .i64 k ∧ k ≤ b.length ∧ acc.length ≤ k ∧ Hid (acc ++ (rows (b.drop k)).1 = (rows b).1 ∧ k + (rows (b.drop k)).2 = (rows b).2) ∧ Hid (Ow (kSlice kByte) 22 wr w.heap.size (w.heap.size ≤ ·) u acc) ∧ Hid (Ext w wr)) (fun _ n _ => b.length - (intOf n).toNat)
  case atStart => exact ⟨0, [], rfl, by omega, by simp, Lib.hid (by simp), Lib.hid (Ow.nil _ _ _ _ _), Lib.hid (Ext.refl _)⟩
  case round =>
    obtain ⟨k, acc, rfl, hk, hak, HA, HO, HE⟩ := hrel
    have hs1 := slice_from tBytes A b.length c .i64 (k : Int) k rfl hk
    have hrest := (HR.out.ext HE.out).from_ (l := k) rfl hk
    simp only [partV_eq] at hs1 hrest
    have HREST := Lib.hid hrest
    have hol : acc.length ≤ 140737488355328 := HO.out.2.1
    clear hrest
    go_wp2_with fail
    refine (Pick_calls _ _ _ _ HREST.out).mono ?_
    rintro e w1 ⟨p, rfl, ho, he⟩
    have HP := Lib.hid ho
    have HO1 := Lib.hid (HO.out.ext he)
    have HE1 := Lib.hid (HE.out.trans he)
    have HLE := Lib.hid he.le
    clear ho he
    by_cases hok : (pick (b.drop k)).2.2 = 0
    · have hst := rows_step b k acc hok HA.out.1 HA.out.2
      have hpk := pick_ok (b.drop k) hok
      rw [List.length_drop] at hpk
      generalize pick (b.drop k) = pk at hok hst hpk HP
      obtain ⟨pp, pn, pe⟩ := pk
      simp only at hok hst hpk HP
      subst hok
      have HST := Lib.hid hst
      have hp1 := hpk.1
      have hp2 := hpk.2.1
      obtain ⟨Ap, cp, rfl, _⟩ := HP.out.rs
      clear hst hpk
      go_wp2_with (at_builtin; refine wpList_append_Rs (kSlice kByte) rfl (.tmp 21) (.tmp 23) 30 22 rfl tRows w.heap.size _ _ acc [pp] (w.heap.size ≤ ·) (fun b => wr.heap.size ≤ b ∧ w.heap.size ≤ b) rfl rfl (HO1.out.alloc _) (Rs.one_ (heap_alloc_new _ _) ?cs ((HP.out.rs.alloc _).mono ?cm)) (apart_rows HO.out (fun _ h => h)) ?cn ?cb ?cz ?_)
      case cs => exact ⟨HLE.out, HE1.out.le⟩
      case cm => intro b hb; have := HE.out.le; exact ⟨hb, by omega⟩
      case cn => intro b hb; have := HE1.out.le; simp at hb; omega
      case cb => simp; omega
      case cz => have := HE1.out.le; simp; omega
      intro v2 w2 ho hg _
      have HO2 := Lib.hid ho
      have HE2 := Lib.hid ((HE1.out.alloc _).grown hg HO.out.from_)
      clear ho hg
      go_wp2
      go_roundw
      case rel => exact ⟨k + pn, acc ++ [pp], by first | rfl | go_num, by omega, by simp; omega, HST, HO2, HE2⟩
      case measure => simp [intOf]; omega
    · have hen := rows_end b k acc hok HA.out.1 HA.out.2
      have hne : (((pick (b.drop k)).2.2 : Int) != 0) = true := by rw [bne_iff_ne]; omega
      generalize pick (b.drop k) = pk at hok hne HP
      obtain ⟨pp, pn, pe⟩ := pk
      simp only at hok hne HP
      have HEN := Lib.hid hen
      clear hen hok
      go_wp2_with fail
      go_ret2
      rw [HEN.out.1, HEN.out.2]
      exact ⟨_, rfl, HO1.out, HE1.out⟩
end Go.Proofs.Ytikbpgcalmndoaa
