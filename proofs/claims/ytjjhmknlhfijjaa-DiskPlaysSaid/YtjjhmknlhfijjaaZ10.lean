/-
  Texts of this claim, put together: DiskSynced.
-/
import Derived.Test.YtjjhmknlhfijjaaZ9
set_option linter.unusedVariables false
set_option linter.unusedSimpArgs false
namespace Go.Proofs.Ytjjhmknlhfijjaa
open Go.RowKit

def syncedS (s : DkS) : DkS := ⟨false, 0, 0, 0, s.room, s.seen, []⟩
theorem synced_code {s : DkS} : (syncS (calmS s)).1 = 0 := rfl
theorem synced_fall (s : DkS) (k t : Int) : fallS (syncedS s) k t = { syncedS s with off := true } := by
  unfold fallS
  have e : keptA (syncedS s).acts (clampN k (syncedS s).acts.length) t = [] := by
    have h1 : clampN k 0 = 0 := by unfold clampN; omega
    show keptA [] (clampN k 0) t = []
    rw [h1, keptA_zero]
  rw [e]
  rfl
set_option maxRecDepth 100000 in
set_option maxHeartbeats 1600000 in
theorem DiskSynced_walk (w : World) (room : Int) (hroom : -9223372036854775808 ≤ room ∧ room ≤ 9223372036854775807) (S1 : Nat → Prop) (v1 : Value) (l : List DoS) (h1 : Rs kDDo w S1 v1 l) (keep : Int) (hkeep : -9223372036854775808 ≤ keep ∧ keep ≤ 9223372036854775807) (tear : Int) (htear : -9223372036854775808 ≤ tear ∧ tear ≤ 9223372036854775807) :
    Calls Try.prog 10 #[.int .i64 room, v1, .int .i64 keep, .int .i64 tear] w fun e w' => e = .returned (.bool true) ∧ Ext w w' := by
  have HKE := Lib.hid (show I64 keep from hkeep)
  have HTE := Lib.hid (show I64 tear from htear)
  clear hroom hkeep htear
  obtain ⟨A1, c1, e, -⟩ := id h1
  subst e
  have HL1 := Lib.hid h1
  clear h1
  have HMD := Lib.hid (made_calls w w [] room S1 _ l (DkS_.nil w) HL1.out)
  go_enter Try.func10, Try.ntmps10
  go_wp2_with fail
  refine HMD.out.mono ?_
  rintro e w1 ⟨p, s, rfl, HD1, HS1⟩
  unfold ptr
  simp only [List.nil_append] at HD1
  by_cases hs : shortF l = true
  case neg =>
    have hs' : shortF l = false := by simpa using hs
    rw [hs']
    clear hs hs'
    go_wp2_with fail
    refine (awake_calls w1).mono ?_
    rintro e w2 ⟨rfl, hx⟩
    have HX := Lib.hid (HD1.out.ext.trans hx)
    clear hx
    go_wp2_with fail
    go_ret
    exact ⟨rfl, HX.out⟩
  have hs0 := HS1.out hs
  have HLN := Lib.hid (show s.acts.length ≤ 120 by
    rw [hs0]
    have h1 := foldD_len l (newS (room20 room))
    have h2 := short_len hs
    have h3 : (newS (room20 room)).acts.length = 0 := rfl
    unfold madeS
    omega)
  have HRM := Lib.hid (show s.room < 1048576 by rw [hs0]; exact madeS_room room l)
  have HS := Lib.hid hs
  rw [hs]
  clear hs hs0 HMD
  go_wp2_with fail
  refine (HD1.out.op (i := 0) rfl (fun M D hX => Start_calls w1 p M D s hX)).mono ?_
  rintro e wa ⟨rfl, HDa⟩
  change Hid (DkS_ w wa [(p, startS s)]) at HDa
  go_wp2_with fail
  refine (HDa.out.op (i := 0) rfl (fun M D hX => Arm_calls wa p M D (startS s) 0 0 0 hX i0 i0 i0)).mono ?_
  rw [calm_code]
  rintro e w3 ⟨rfl, HD3⟩
  change Hid (DkS_ w w3 [(p, calmS s)]) at HD3
  go_wp2_with fail
  refine (HD3.out.op (i := 0) rfl (fun M D hX => Sync_calls w3 p M D (calmS s) hX)).mono ?_
  rw [synced_code]
  rintro e w4 ⟨rfl, HD4⟩
  change Hid (DkS_ w w4 [(p, syncedS s)]) at HD4
  go_wp2_with fail
  refine (HD4.out.look (i := 0) (Q := fun e w' => e = .returned (.int .i64 (pendF (syncedS s)))) rfl fun M D hx => (Pending_calls w4 p M D (syncedS s) hx).mono fun e w' ⟨h1, h2⟩ => ⟨h1, h2 ▸ Ext.refl _⟩).mono ?_
  rw [show pendF (syncedS s) = 0 from rfl]
  rintro e w5 ⟨rfl, -, HD5⟩
  go_wp2_with fail
  refine (HD5.out.twin (i := 0) rfl (show (syncedS s).acts.length ≤ 1000000 from Nat.zero_le _)).mono ?_
  rintro e w6 ⟨q, rfl, HD6, -⟩
  change Hid (DkS_ w w6 [(p, syncedS s), (q, syncedS s)]) at HD6
  unfold ptr
  go_wp2_with fail
  refine (HD6.out.op (i := 0) rfl (fun M D hX => Crash_calls w6 p M D (syncedS s) keep tear hX HKE.out HTE.out)).mono ?_
  rw [show (crashS (syncedS s) keep tear).1 = 0 from rfl]
  rintro e w7 ⟨rfl, HD7⟩
  change Hid (DkS_ w w7 [(p, fallS (syncedS s) keep tear), (q, syncedS s)]) at HD7
  rw [synced_fall] at HD7
  go_wp2_with fail
  refine (HD7.out.look (i := 0) (Q := fun e w' => ∃ v, e = .returned v ∧ Rs kStr w' (fun _ => True) v (listF ({ syncedS s with off := true } : DkS))) rfl fun M D hx => (List_calls w7 p M D ({ syncedS s with off := true } : DkS) hx).mono fun e w' ⟨v, h1, h2, h3⟩ => ⟨⟨v, h1, h2.all.rs⟩, h3⟩).mono ?_
  rintro e w8 ⟨⟨v8, rfl, hr8⟩, HX8, HD8⟩
  have HR8 := Lib.hid hr8
  obtain ⟨A8, c8, rfl, -, -, -, -⟩ := hr8
  have hl8 : (listF ({ syncedS s with off := true } : DkS)).length = 0 := rfl
  clear HR8
  rw [hl8]
  go_wp2_with fail
  refine (HD8.out.op (i := 0) rfl (fun M D hX => Sync_calls w8 p M D _ hX)).mono ?_
  rw [show (syncS ({ syncedS s with off := true } : DkS)).1 = 22 from rfl]
  rintro e w9 ⟨rfl, HD9⟩
  change Hid (DkS_ w w9 [(p, ({ syncedS s with off := true } : DkS)), (q, syncedS s)]) at HD9
  go_wp2_with fail
  refine (HD9.out.op (i := 0) rfl (fun M D hX => Start_calls w9 p M D _ hX)).mono ?_
  rintro e w10 ⟨rfl, HD10⟩
  change Hid (DkS_ w w10 [(p, syncedS s), (q, syncedS s)]) at HD10
  go_wp2_with fail
  refine (same_calls w w10 _ 1 0 q p _ _ HD10.out rfl rfl rfl rfl).mono ?_
  rintro e w11 ⟨rfl, HD11⟩
  go_wp2_with fail
  refine (awake_calls w11).mono ?_
  rintro e wz ⟨rfl, hx⟩
  have HXZ := Lib.hid (HD11.out.ext.trans hx)
  clear hx
  go_wp2_with fail
  go_ret
  exact ⟨rfl, HXZ.out⟩

end Go.Proofs.Ytjjhmknlhfijjaa
