/-
  spandrelref01.Pick.
-/
import Derived.Test.YtikbpgcalmndoaaRefRead
import Derived.Test.YtikbpgcalmndoaaPick
set_option linter.unusedVariables false
set_option linter.unusedSimpArgs false
namespace Go.Proofs.Ytikbpgcalmndoaa
open Go.RowKit

/-- The reference's test and the document's. -/
theorem pick_same (b : List UInt8) (n k : Nat) (hb : b[0]? = some (byt 93)) (hr : rd (b.drop 1) = (n, k, 0)) (hl : 1 + k + n + 4 ≤ b.length) :
    (rcd ((b.drop (1 + k)).take n) = b.take (1 + k + n + 4)) = ((b.drop (1 + k + n)).take 4 = be4 (crc (b.take (1 + k + n)))) := by
  have hf := rd_form (b.drop 1) (by rw [hr])
  have hfl := rd_form_len (b.drop 1) (by rw [hr])
  rw [hr] at hf hfl
  simp only at hf hfl
  have hm : ((b.drop (1 + k)).take n).length = n := by rw [List.length_take, List.length_drop]; omega
  have hbody : b.take (1 + k + n) = body ((b.drop (1 + k)).take n) := by
    unfold body
    rw [hm, ← hf]
    match b, hb with
    | x :: l, hb =>
      simp only [List.getElem?_cons_zero, Option.some.injEq] at hb
      subst hb
      rw [show 1 + k + n = (k + n) + 1 by omega, List.take_succ_cons, List.drop_succ_cons, List.drop_zero, show 1 + k = k + 1 by omega, List.drop_succ_cons, ← List.take_add]
  have hsplit : b.take (1 + k + n + 4) = b.take (1 + k + n) ++ (b.drop (1 + k + n)).take 4 := List.take_add
  unfold rcd
  rw [hsplit, hbody]
  apply propext
  constructor
  · intro h; exact (List.append_cancel_left h).symm
  · intro h; rw [h]

set_option maxRecDepth 100000 in
set_option maxHeartbeats 4000000 in
theorem RefPick_calls (w : World) (S : Nat → Prop) (v : Value) (b : List UInt8) (hr : Rs kByte w S v b) :
    Calls Try.prog 36 #[v] w fun e w' => ∃ u, e = .returned (.tuple #[u, .int .i64 ((pick b).2.1 : Int), .int .i64 ((pick b).2.2 : Int)]) ∧ Ow kByte 5 w' w.heap.size (w.heap.size ≤ ·) u (pick b).1 ∧ Ext w w' := by
  have HR := Lib.hid hr
  obtain ⟨A, c, rfl, hl, hc, hz, hrow⟩ := hr
  by_cases h0 : b.length = 0
  · have hx : pick b = ([], 0, 2) := by unfold pick; rw [if_pos h0]
    rw [hx]
    clear hx hrow
    have h0' : ((b.length : Int) == 0) = true := beq_iff_eq.2 (by omega)
    go_enter Try.func36, Try.ntmps36
    go_wp2_with fail
    go_ret3
    exact ⟨_, rfl, Ow.nil _ _ _ _ _, Ext.refl _⟩
  obtain ⟨ad, rfl, hcell⟩ := hrow.byte (j := 0) (by omega)
  rw [add_zero_addr] at hcell
  clear hrow
  have hlp : (0 : Int) < (b.length : Int) := by omega
  by_cases h93 : b[0]? ≠ some (byt 93)
  · have hx : pick b = ([], 0, 10) := by unfold pick; rw [if_neg h0, if_pos h93]
    rw [hx]
    have hne : ((b[0].toNat : Int) != 93) = true := by
      rw [bne_iff_ne]
      intro e
      apply h93
      rw [List.getElem?_eq_getElem (by omega)]
      congr 1
      apply UInt8.toNat.inj
      rw [byt_toNat]; omega
    clear hx h93
    go_enter Try.func36, Try.ntmps36
    go_wp2_with fail
    go_ret3
    exact ⟨_, rfl, Ow.nil _ _ _ _ _, Ext.refl _⟩
  have h93' : b[0]? = some (byt 93) := Classical.not_not.1 h93
  have hb0 : (b[0].toNat : Int) = 93 := by
    rw [List.getElem?_eq_getElem (by omega)] at h93'
    injection h93' with h93'
    rw [h93', byt_toNat]; rfl
  rw [hb0] at hcell
  have hx : pick b = if (rd (b.drop 1)).2.2 ≠ 0 then ([], 0, (rd (b.drop 1)).2.2) else
      if 65536 < (rd (b.drop 1)).1 then ([], 0, 4) else
      if b.length < 1 + (rd (b.drop 1)).2.1 + (rd (b.drop 1)).1 + 4 then ([], 0, 2) else
      if (b.drop (1 + (rd (b.drop 1)).2.1 + (rd (b.drop 1)).1)).take 4 ≠ be4 (crc (b.take (1 + (rd (b.drop 1)).2.1 + (rd (b.drop 1)).1))) then ([], 0, 11) else
      ((b.drop (1 + (rd (b.drop 1)).2.1)).take (rd (b.drop 1)).1, 1 + (rd (b.drop 1)).2.1 + (rd (b.drop 1)).1 + 4, 0) := by
    unfold pick; rw [if_neg h0, if_neg h93]
  have hbd := rd_bd (b.drop 1)
  rw [List.length_drop] at hbd
  have HRD := Lib.hid (rfl : rd (b.drop 1) = rd (b.drop 1))
  generalize hrr : rd (b.drop 1) = r at hbd hx
  obtain ⟨n, k, e⟩ := r
  simp only at hbd hx
  have HX := Lib.hid hx
  have HRR := Lib.hid hrr
  obtain ⟨hn, hk, hz0, he10⟩ := hbd
  have H0 := Lib.hid h0
  have H93 := Lib.hid h93'
  clear hx hz0 h0 h93 hb0 hrr h93' HRD
  have hrest := HR.out.from_ (l := 1) rfl (by omega)
  have hs1 := slice_from tBytes (some ad) b.length c .i64 1 1 rfl (by omega)
  rw [partV_eq] at hrest
  simp only [partV_eq] at hs1
  have HREST := Lib.hid hrest
  clear hrest
  go_enter Try.func36, Try.ntmps36
  go_wp2_with fail
  refine (Read_calls w S _ (b.drop 1) HREST.out).mono ?_
  rw [HRR.out]
  rintro e1 w1 ⟨rfl, rfl⟩
  by_cases h1 : e ≠ 0
  · have HX2 := Lib.hid (show pick b = ([], 0, e) by rw [HX.out, if_pos h1])
    have h1' : ((e : Int) != 0) = true := by rw [bne_iff_ne]; omega
    go_wp2_with fail
    go_ret3
    rw [HX2.out]
    exact ⟨_, rfl, Ow.nil _ _ _ _ _, Ext.refl _⟩
  have h1' : e = 0 := Classical.not_not.1 h1
  subst h1'
  clear h1
  by_cases h2 : 65536 < n
  · have HX2 := Lib.hid (show pick b = ([], 0, 4) by rw [HX.out, if_neg (by simp), if_pos h2])
    have h2' : (65536 : Int) < (n : Int) := by omega
    go_wp2_with fail
    go_ret3
    rw [HX2.out]
    exact ⟨_, rfl, Ow.nil _ _ _ _ _, Ext.refl _⟩
  have h2' : (n : Int) ≤ 65536 := by omega
  by_cases h3 : b.length < 1 + k + n + 4
  · have HX2 := Lib.hid (show pick b = ([], 0, 2) by rw [HX.out, if_neg (by simp), if_neg h2, if_pos h3])
    have h3' : (b.length : Int) - 1 - (k : Int) - 4 < (n : Int) := by omega
    go_wp2_with fail
    go_ret3
    rw [HX2.out]
    exact ⟨_, rfl, Ow.nil _ _ _ _ _, Ext.refl _⟩
  have h3' : (n : Int) ≤ (b.length : Int) - 1 - (k : Int) - 4 := by omega
  have hsm := pick_same b n k H93.out HRR.out (by omega)
  have hx : pick b = if rcd ((b.drop (1 + k)).take n) = b.take (1 + k + n + 4) then ((b.drop (1 + k)).take n, 1 + k + n + 4, 0) else ([], 0, 11) := by
    rw [HX.out, if_neg (by simp), if_neg h2, if_neg h3]
    by_cases h5 : (b.drop (1 + k + n)).take 4 = be4 (crc (b.take (1 + k + n)))
    · rw [if_neg (fun h => h h5), if_pos (by rw [hsm]; exact h5)]
    · rw [if_pos h5, if_neg (by rw [hsm]; exact h5)]
  have HPX := Lib.hid hx
  have hlm : ((b.drop (1 + k)).take n).length = n := by rw [List.length_take, List.length_drop]; omega
  have hrc : record ((b.drop (1 + k)).take n) = (rcd ((b.drop (1 + k)).take n), 0) := by unfold record; rw [if_neg (by omega)]
  have HREC := Lib.hid hrc
  have HLM := Lib.hid hlm
  have hrB := HR.out.part (l := 1 + k) (h := 1 + k + n) rfl (by omega) (by omega)
  have hsB := slice_of tBytes (some ad) b.length c .i64 .i64 (1 + (k : Int)) (1 + (k : Int) + (n : Int)) (1 + k) (1 + k + n) rfl rfl (by omega) (by omega)
  have hrC := HR.out.to_ (h := 1 + k + n + 4) rfl (by omega)
  have hsC := slice_to tBytes (some ad) b.length c .i64 ((n : Int) + (k : Int) + 5) (1 + k + n + 4) (by omega) (by omega)
  simp only [partV_eq, Nat.add_sub_cancel_left, Nat.sub_zero] at hsB hrB hsC hrC
  have HRB := Lib.hid hrB
  have HRC := Lib.hid hrC
  have HH3 := Lib.hid h3
  clear hx hlm hrc hsm hrB hrC HX h2 h3
  go_wp2_with (at_builtin; refine wpList_append_Rs kByte rfl (.tmp 38) (.tmp 46) 22 5 rfl tBytes w.heap.size _ _ [] ((b.drop (1 + k)).take n) (w.heap.size ≤ ·) S rfl rfl (Ow.slit (xs := []) (heap_alloc_new _ _) (Nat.le_refl _) (Nat.le_refl _) (by simp) (by simp)) ?cr (fun _ _ h => h) ?cn ?cb ?cz ?_)
  case cr => exact HRB.out.alloc _
  case cn => intro b hb; simp at hb; omega
  case cb => simp; omega
  case cz => simp
  intro v2 w2 ho hg _
  have HO := Lib.hid ho
  have HE := Lib.hid (((Ext.refl w).alloc _).grown hg (fun k hk => by simp [Value.ownBlock] at hk; omega))
  clear ho hg
  go_wp2_with fail
  refine (RefRecord_calls _ _ _ _ HO.out.rs).mono ?_
  rw [HREC.out]
  rintro e w3 ⟨u, rfl, ho, he⟩
  have HE3 := Lib.hid (HE.out.trans he)
  have HO3 := Lib.hid (HO.out.ext he)
  have hcvX : ∀ a : Nat, (convert 22 9 u).run Try.prog (w3.drewN a) = .ok (.string ⟨(rcd ((b.drop (1 + k)).take n)).toArray⟩) (w3.drewN a) := fun a => (ho.rs.drewN a).to_string Try.underlying22 tByte tString
  have hcvB : ∀ a : Nat, (convert 22 9 (.slice (restA (some ad) c 0) (1 + k + n + 4) c)).run Try.prog (w3.drewN a) = .ok (.string ⟨(b.take (1 + k + n + 4)).toArray⟩) (w3.drewN a) := fun a => ((HRC.out.ext HE3.out).drewN a).to_string Try.underlying22 tByte tString
  clear ho he
  go_wp2_with fail
  have hwr1 : IntKind.i64.wrap ((n : Int) + (k : Int)) = (n : Int) + (k : Int) := IntWalk.i64_in _ (by omega)
  have hwr2 : IntKind.i64.wrap ((n : Int) + (k : Int) + 5) = (n : Int) + (k : Int) + 5 := IntWalk.i64_in _ (by omega)
  have hb5 : (n : Int) + (k : Int) + 5 = ((1 + k + n + 4 : Nat) : Int) := by omega
  have HB5 := Lib.hid hb5
  clear hb5
  generalize hX : rcd ((b.drop (1 + k)).take n) = X at hcvX HPX
  generalize hY : b.take (1 + k + n + 4) = Y at hcvB HPX
  clear hX hY
  by_cases hXY : X = Y
  · have hbe : (X == Y) = true := by rw [hXY]; exact beq_self_eq_true Y
    have HPK := Lib.hid (show pick b = ((b.drop (1 + k)).take n, 1 + k + n + 4, 0) by rw [HPX.out, if_pos hXY])
    clear hXY
    go_quiet (fail)
    go_wp2
    go_ret3
    rw [HPK.out]
    refine ⟨_, ?_, HO3.out.drewN _, HE3.out.drewN _⟩
    show Ending.returned (.tuple #[v2, .int .i64 ((n : Int) + (k : Int) + 5), .int .i64 0]) = _
    rw [HB5.out]
    rfl
  · have hbe : (X == Y) = false := beq_eq_false_iff_ne.2 hXY
    have HPK := Lib.hid (show pick b = ([], 0, 11) by rw [HPX.out, if_neg hXY])
    clear hXY
    go_quiet (fail)
    go_wp2
    go_ret3
    rw [HPK.out]
    exact ⟨_, rfl, Ow.nil _ _ _ _ _, HE3.out.drewN _⟩
end Go.Proofs.Ytikbpgcalmndoaa
