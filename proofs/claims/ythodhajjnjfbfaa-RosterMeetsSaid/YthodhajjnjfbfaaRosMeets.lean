/-
  The walk of RosterMeets.
-/
import Derived.Test.YthodhajjnjfbfaaRosLaws
set_option linter.unusedVariables false
set_option linter.unusedSimpArgs false
namespace Go.Proofs.Ythodhajjnjfbfaa
open Go.RowKit

theorem Rs.four {α : Type} {d : Kd α} {w : World} {S : Nat → Prop} {g : Nat} {t : TypeId} {fz : Nat × Nat} {v1 v2 v3 v4 : Value} {x1 x2 x3 x4 : List α} (hb : w.heap[g]? = some (.cells #[v1, v2, v3, v4] t fz)) (hS : S g) (h1 : Rs d w S v1 x1) (h2 : Rs d w S v2 x2) (h3 : Rs d w S v3 x3) (h4 : Rs d w S v4 x4) :
    Rs (kSlice d) w S (.slice (some ⟨g, 0, none⟩) 4 4) [x1, x2, x3, x4] :=
  ⟨_, 4, rfl, by simp, by omega, by simp, Row.slices_of (vs := [v1, v2, v3, v4]) hb hS fun j x hj => by
    match j, hj with
    | 0, hj => simp at hj; subst hj; exact ⟨_, rfl, h1⟩
    | 1, hj => simp at hj; subst hj; exact ⟨_, rfl, h2⟩
    | 2, hj => simp at hj; subst hj; exact ⟨_, rfl, h3⟩
    | 3, hj => simp at hj; subst hj; exact ⟨_, rfl, h4⟩⟩

/-- Is n among others, and among the old or the next ones? -/
def meetP (old next others : List Int) (n : Int) : Bool := hasB others n && (hasB old n || hasB next n)

set_option maxHeartbeats 400000 in
theorem Meets1_calls (w : World) (S : Nat → Prop) (a b c : Nat) (va vb vc : Value) (old next others : List Int) (n : Int)
    (ha : w.cell? ⟨a, 0, none⟩ = some va) (hb : w.cell? ⟨b, 0, none⟩ = some vb) (hc : w.cell? ⟨c, 0, none⟩ = some vc)
    (h1 : Rs kInt w S va old) (h2 : Rs kInt w S vb next) (h3 : Rs kInt w S vc others) :
    Calls Try.prog 26 #[.int .i64 n, .pointer (some ⟨c, 0, none⟩), .pointer (some ⟨a, 0, none⟩), .pointer (some ⟨b, 0, none⟩)] w fun e w' => e = .returned (.bool (meetP old next others n)) ∧ w = w' := by
  obtain ⟨A1, c1, rfl⟩ := h1.isS
  obtain ⟨A2, c2, rfl⟩ := h2.isS
  obtain ⟨A3, c3, rfl⟩ := h3.isS
  have H1 := Lib.hid h1
  have H2 := Lib.hid h2
  have H3 := Lib.hid h3
  clear h1 h2 h3
  cases e3 : hasB others n
  · have HB := Lib.hid e3
    have HM := Lib.hid (show meetP old next others n = false by unfold meetP; rw [e3]; rfl)
    clear e3
    go_enter Try.func26, Try.ntmps26
    go_wp2_with fail
    refine (Votes_calls _ _ _ others n H3.out).mono ?_
    rw [HB.out]; rintro e w' ⟨rfl, rfl⟩
    go_wp2
    go_ret
    exact ⟨bool_ret HM.out.symm, rfl⟩
  · have HB := Lib.hid e3
    cases e1 : hasB old n
    · have HB1 := Lib.hid e1
      have HM := Lib.hid (show meetP old next others n = hasB next n by unfold meetP; rw [e3, e1]; rfl)
      clear e3 e1
      go_enter Try.func26, Try.ntmps26
      go_wp2_with fail
      refine (Votes_calls _ _ _ others n H3.out).mono ?_
      rw [HB.out]; rintro e w' ⟨rfl, rfl⟩
      go_wp2_with fail
      refine (Votes_calls _ _ _ old n H1.out).mono ?_
      rw [HB1.out]; rintro e w' ⟨rfl, rfl⟩
      go_wp2_with fail
      refine (Votes_calls _ _ _ next n H2.out).mono ?_
      rintro e w' ⟨rfl, rfl⟩
      go_wp2
      go_ret
      exact ⟨bool_ret HM.out.symm, rfl⟩
    · have HB1 := Lib.hid e1
      have HM := Lib.hid (show meetP old next others n = true by unfold meetP; rw [e3, e1]; rfl)
      clear e3 e1
      go_enter Try.func26, Try.ntmps26
      go_wp2_with fail
      refine (Votes_calls _ _ _ others n H3.out).mono ?_
      rw [HB.out]; rintro e w' ⟨rfl, rfl⟩
      go_wp2_with fail
      refine (Votes_calls _ _ _ old n H1.out).mono ?_
      rw [HB1.out]; rintro e w' ⟨rfl, rfl⟩
      go_wp2
      go_ret
      exact ⟨bool_ret HM.out.symm, rfl⟩

set_option maxHeartbeats 400000 in
theorem MeetsIdx_calls (w : World) (S T : Nat → Prop) (a b c : Nat) (va vb vc : Value) (old next others : List Int) (v : Value) (l : List Int)
    (ha : w.cell? ⟨a, 0, none⟩ = some va) (hb : w.cell? ⟨b, 0, none⟩ = some vb) (hc : w.cell? ⟨c, 0, none⟩ = some vc)
    (h1 : Rs kInt w S va old) (h2 : Rs kInt w S vb next) (h3 : Rs kInt w S vc others) (hv : Rs kInt w T v l) (hex : ∃ n ∈ l, meetP old next others n = true) :
    Calls Try.prog 35 #[v, .func (.func 26) #[] #[.pointer (some ⟨c, 0, none⟩), .pointer (some ⟨a, 0, none⟩), .pointer (some ⟨b, 0, none⟩)]] w fun e w' => (∃ i : Nat, e = .returned (.int .i64 i)) ∧ w = w' := by
  have HC := Lib.hid (fun n => Meets1_calls w S a b c va vb vc old next others n ha hb hc h1 h2 h3)
  clear ha hb hc h1 h2 h3
  have HX := Lib.hid hex
  clear hex
  obtain ⟨A, cp, rfl, hl, hcp, hz, hrow⟩ := hv
  have HR := Lib.hid hrow
  clear hrow
  go_enter Try.func35, Try.ntmps35
  go_wp2
  go_loop [8] (fun i => ∃ k : Nat, k ≤ l.length ∧ i = .int .i64 k ∧ Hid (∀ n ∈ l.take k, meetP old next others n = false)) (fun i => l.length - (intOf i).toNat)
  case atStart => exact ⟨0, Nat.zero_le _, rfl, Lib.hid (by simp)⟩
  case round =>
    obtain ⟨k, hk, rfl, HQ⟩ := hrel
    by_cases hlt : k < l.length
    · obtain ⟨ad, rfl, hcell, _⟩ := HR.out.int hlt
      have HS := Lib.hid (show ∀ b, meetP old next others l[k] = b → ∀ n ∈ l.take (k + 1), b = false → meetP old next others n = false from fun b hb n hn hbf => by
        rw [List.take_succ_eq_append_getElem hlt] at hn
        rcases List.mem_append.1 hn with hn | hn
        · exact HQ.out n hn
        · rw [List.mem_singleton.1 hn, hb, hbf])
      generalize l[k] = x at hcell HS
      cases hp : meetP old next others x
      · have HP := Lib.hid hp
        have HQ' := Lib.hid (fun n hn => HS.out _ hp n hn rfl)
        clear hp
        go_wp2_with fail
        refine (HC.out x).mono ?_
        rw [HP.out]; rintro e w' ⟨rfl, rfl⟩
        go_wp2
        go_round
        case rel => exact ⟨k + 1, by omega, by go_num, HQ'⟩
        case measure => simp [intOf]; omega
      · have HP := Lib.hid hp
        clear hp
        go_wp2_with fail
        refine (HC.out x).mono ?_
        rw [HP.out]; rintro e w' ⟨rfl, rfl⟩
        go_wp2
        go_ret
        exact ⟨⟨k, rfl⟩, rfl⟩
    · obtain rfl : k = l.length := by omega
      exfalso
      have h := HQ.out
      rw [List.take_length] at h
      obtain ⟨n, hn, hp⟩ := HX.out
      rw [h n hn] at hp
      cases hp
theorem cell3 (w : World) (v1 v2 v3 : Value) (t : TypeId) (o : Obj) :
    ((((w.alloc (.cells #[v1] t)).alloc (.cells #[v2] t)).alloc (.cells #[v3] t)).alloc o).cell? ⟨w.heap.size, 0, none⟩ = some v1 ∧
    ((((w.alloc (.cells #[v1] t)).alloc (.cells #[v2] t)).alloc (.cells #[v3] t)).alloc o).cell? ⟨w.heap.size + 1, 0, none⟩ = some v2 ∧
    ((((w.alloc (.cells #[v1] t)).alloc (.cells #[v2] t)).alloc (.cells #[v3] t)).alloc o).cell? ⟨w.heap.size + 2, 0, none⟩ = some v3 := by
  have s1 : (w.alloc (.cells #[v1] t)).heap.size = w.heap.size + 1 := by simp
  have s2 : ((w.alloc (.cells #[v1] t)).alloc (.cells #[v2] t)).heap.size = w.heap.size + 2 := by simp
  have b1 := blk_ext (heap_new w _ rfl (.cells #[v1] t)) ((((Ext.refl _).alloc (.cells #[v2] t)).alloc (.cells #[v3] t)).alloc o)
  have b2 := blk_ext (heap_new (w.alloc (.cells #[v1] t)) _ s1 (.cells #[v2] t)) (((Ext.refl _).alloc (.cells #[v3] t)).alloc o)
  have b3 := blk_ext (heap_new ((w.alloc (.cells #[v1] t)).alloc (.cells #[v2] t)) _ s2 (.cells #[v3] t)) ((Ext.refl _).alloc o)
  exact ⟨cell_blk b1 0, cell_blk b2 0, cell_blk b3 0⟩

set_option maxRecDepth 100000 in
set_option maxHeartbeats 4000000 in
theorem RosterMeets_walk (w : World) (S1 : Nat → Prop) (v1 : Value) (old : List Int) (h1 : Rs kInt w S1 v1 old) (S2 : Nat → Prop) (v2 : Value) (next : List Int) (h2 : Rs kInt w S2 v2 next)
    (S3 : Nat → Prop) (v3 : Value) (sm : List Int) (h3 : Rs kInt w S3 v3 sm) (S4 : Nat → Prop) (v4 : Value) (others : List Int) (h4 : Rs kInt w S4 v4 others) :
    Calls Try.prog 8 #[v1, v2, v3, v4] w fun e w' => e = .returned (.bool true) ∧ Ext w w' := by
  obtain ⟨A1, c1, rfl⟩ := h1.isS
  obtain ⟨A2, c2, rfl⟩ := h2.isS
  obtain ⟨A3, c3, rfl⟩ := h3.isS
  obtain ⟨A4, c4, rfl⟩ := h4.isS
  have H1 := Lib.hid h1.under
  have H2 := Lib.hid h2.under
  have H3 := Lib.hid h3.under
  have H4 := Lib.hid h4.under
  have HC3 := Lib.hid (cell3 w (.slice A1 old.length c1) (.slice A2 next.length c2) (.slice A4 others.length c4) 22)
  clear h1 h2 h3 h4
  go_enter Try.func8, Try.ntmps8
  go_wp2_with fail
  refine (light_calls _ _ _ [old, next, sm, others] (Rs.four (heap_new _ _ (by simp) _) trivial (((((H1.out.alloc _).alloc _).alloc _).alloc _).mono fun _ _ => trivial) (((((H2.out.alloc _).alloc _).alloc _).alloc _).mono fun _ _ => trivial) (((((H3.out.alloc _).alloc _).alloc _).alloc _).mono fun _ _ => trivial) (((((H4.out.alloc _).alloc _).alloc _).alloc _).mono fun _ _ => trivial))).mono ?_
  rintro e w' ⟨rfl, hw⟩
  have HE := Lib.hid (hw ▸ ((((Ext.refl w).alloc _).alloc _).alloc _).alloc _ : Ext w w')
  obtain ⟨k1, k2, k3⟩ := HC3.out _
  rw [hw] at k1 k2 k3
  clear hw
  cases hL : lightB [old, next, sm, others]
  · have HL := Lib.hid hL
    clear hL
    go_wp2_with fail
    refine (awake_calls _).mono ?_
    rintro e wz ⟨rfl, hez⟩
    have HEZ := Lib.hid (HE.out.trans hez)
    clear hez
    go_wp2
    go_ret
    exact ⟨rfl, HEZ.out⟩
  · have HB := Lib.hid (fun x hx => lightB_mem hL (x := x) hx)
    clear hL
    by_cases hmay : mayE old next = 0
    · have HM := Lib.hid hmay
      have HY : Hid (mayE old next = 0 ∨ (old = next ∧ chk old = true)) := Lib.hid (.inl hmay)
      clear hmay
      go_wp2_with fail
      refine (May_calls _ _ _ _ _ old next (H1.out.ext HE.out) (H2.out.ext HE.out) (by have := HB.out old (by simp); omega) (by have := HB.out next (by simp); omega)).mono ?_
      rw [HM.out]; rintro e wq ⟨rfl, rfl⟩
      cases hm1 : majB old sm
      · have HM1 := Lib.hid hm1
        clear hm1
        go_wp2_with fail
        refine (Majority_calls _ _ _ _ _ old sm (H1.out.ext HE.out) (H3.out.ext HE.out)).mono ?_
        rw [HM1.out]; rintro e wq ⟨rfl, rfl⟩
        go_wp2_with fail
        refine (awake_calls _).mono ?_
        rintro e wz ⟨rfl, hez⟩
        have HEZ := Lib.hid (HE.out.trans hez)
        clear hez
        go_wp2
        go_ret
        exact ⟨rfl, HEZ.out⟩
      · have HM1 := Lib.hid hm1
        clear hm1
        go_wp2_with fail
        refine (Majority_calls _ _ _ _ _ old sm (H1.out.ext HE.out) (H3.out.ext HE.out)).mono ?_
        rw [HM1.out]; rintro e wq ⟨rfl, rfl⟩
        cases hm2 : majB next others
        · have HM2 := Lib.hid hm2
          clear hm2
          go_wp2_with fail
          refine (Majority_calls _ _ _ _ _ next others (H2.out.ext HE.out) (H4.out.ext HE.out)).mono ?_
          rw [HM2.out]; rintro e wq ⟨rfl, rfl⟩
          go_wp2_with fail
          refine (awake_calls _).mono ?_
          rintro e wz ⟨rfl, hez⟩
          have HEZ := Lib.hid (HE.out.trans hez)
          clear hez
          go_wp2
          go_ret
          exact ⟨rfl, HEZ.out⟩
        · have HM2 := Lib.hid hm2
          have HX := Lib.hid (show ∃ n ∈ sm, meetP old next others n = true by
            obtain ⟨n, hn, h5, h6⟩ := meets HY.out HM1.out hm2
            refine ⟨n, hn, ?_⟩
            unfold meetP
            rw [h5, Bool.true_and, Bool.or_eq_true]; exact h6)
          clear hm2
          go_wp2_with fail
          refine (Majority_calls _ _ _ _ _ next others (H2.out.ext HE.out) (H4.out.ext HE.out)).mono ?_
          rw [HM2.out]; rintro e wq ⟨rfl, rfl⟩
          go_wp2_with (first | (go_at_call 25; go_in) | fail)
          refine (MeetsIdx_calls _ (· < w.heap.size) _ _ _ _ _ _ _ old next others _ sm k1 k2 k3 (H1.out.ext HE.out) (H2.out.ext HE.out) (H4.out.ext HE.out) (H3.out.ext HE.out) HX.out).mono ?_
          rintro e wq ⟨⟨i, rfl⟩, rfl⟩
          go_wp2_with fail
          refine (awake_calls _).mono ?_
          rintro e wz ⟨rfl, hez⟩
          have HEZ := Lib.hid (HE.out.trans hez)
          clear hez
          go_wp2
          go_ret
          exact ⟨rfl, HEZ.out⟩
    · have hb : (mayE old next != 0) = true := bne_iff_ne.2 hmay
      clear hmay
      generalize hmv : mayE old next = mv at hb
      have HM := Lib.hid hmv
      clear hmv
      cases heq : eqL old next
      · have HQ := Lib.hid heq
        clear heq
        go_wp2_with fail
        refine (May_calls _ _ _ _ _ old next (H1.out.ext HE.out) (H2.out.ext HE.out) (by have := HB.out old (by simp); omega) (by have := HB.out next (by simp); omega)).mono ?_
        rw [HM.out]; rintro e wq ⟨rfl, rfl⟩
        go_wp2_with fail
        refine (EqualI_calls _ _ _ _ _ old next (H1.out.ext HE.out) (H2.out.ext HE.out)).mono ?_
        rw [HQ.out]; rintro e wq ⟨rfl, m, hw⟩
        have HE := Lib.hid (hw ▸ HE.out.drewN m : Ext w wq)
        clear hw
        go_wp2_with fail
        refine (awake_calls _).mono ?_
        rintro e wz ⟨rfl, hez⟩
        have HEZ := Lib.hid (HE.out.trans hez)
        clear hez
        go_wp2
        go_ret
        exact ⟨rfl, HEZ.out⟩
      · have HQ := Lib.hid heq
        clear heq
        go_wp2_with fail
        refine (May_calls _ _ _ _ _ old next (H1.out.ext HE.out) (H2.out.ext HE.out) (by have := HB.out old (by simp); omega) (by have := HB.out next (by simp); omega)).mono ?_
        rw [HM.out]; rintro e wq ⟨rfl, rfl⟩
        go_wp2_with fail
        refine (EqualI_calls _ _ _ _ _ old next (H1.out.ext HE.out) (H2.out.ext HE.out)).mono ?_
        rw [HQ.out]; rintro e wq ⟨rfl, m, hw⟩
        have HE := Lib.hid (hw ▸ HE.out.drewN m : Ext w wq)
        replace k1 : wq.cell? ⟨w.heap.size, 0, none⟩ = some (.slice A1 old.length c1) := by rw [hw]; exact k1
        replace k2 : wq.cell? ⟨w.heap.size + 1, 0, none⟩ = some (.slice A2 next.length c2) := by rw [hw]; exact k2
        replace k3 : wq.cell? ⟨w.heap.size + 2, 0, none⟩ = some (.slice A4 others.length c4) := by rw [hw]; exact k3
        clear hw
        cases hck : chk old
        · have HK := Lib.hid (chkE_no hck)
          clear hck
          go_wp2_with fail
          refine (Check_calls _ _ _ old (H1.out.ext HE.out)).mono ?_
          rw [HK.out]; rintro e wq ⟨rfl, rfl⟩
          go_wp2_with fail
          refine (awake_calls _).mono ?_
          rintro e wz ⟨rfl, hez⟩
          have HEZ := Lib.hid (HE.out.trans hez)
          clear hez
          go_wp2
          go_ret
          exact ⟨rfl, HEZ.out⟩
        · have HK := Lib.hid (chkE_yes hck)
          have HY : Hid (mayE old next = 0 ∨ (old = next ∧ chk old = true)) := Lib.hid (.inr ⟨eqL_iff.1 HQ.out, hck⟩)
          clear hck
          go_wp2_with fail
          refine (Check_calls _ _ _ old (H1.out.ext HE.out)).mono ?_
          rw [HK.out]; rintro e wq ⟨rfl, rfl⟩
          cases hm1 : majB old sm
          · have HM1 := Lib.hid hm1
            clear hm1
            go_wp2_with fail
            refine (Majority_calls _ _ _ _ _ old sm (H1.out.ext HE.out) (H3.out.ext HE.out)).mono ?_
            rw [HM1.out]; rintro e wq ⟨rfl, rfl⟩
            go_wp2_with fail
            refine (awake_calls _).mono ?_
            rintro e wz ⟨rfl, hez⟩
            have HEZ := Lib.hid (HE.out.trans hez)
            clear hez
            go_wp2
            go_ret
            exact ⟨rfl, HEZ.out⟩
          · have HM1 := Lib.hid hm1
            clear hm1
            go_wp2_with fail
            refine (Majority_calls _ _ _ _ _ old sm (H1.out.ext HE.out) (H3.out.ext HE.out)).mono ?_
            rw [HM1.out]; rintro e wq ⟨rfl, rfl⟩
            cases hm2 : majB next others
            · have HM2 := Lib.hid hm2
              clear hm2
              go_wp2_with fail
              refine (Majority_calls _ _ _ _ _ next others (H2.out.ext HE.out) (H4.out.ext HE.out)).mono ?_
              rw [HM2.out]; rintro e wq ⟨rfl, rfl⟩
              go_wp2_with fail
              refine (awake_calls _).mono ?_
              rintro e wz ⟨rfl, hez⟩
              have HEZ := Lib.hid (HE.out.trans hez)
              clear hez
              go_wp2
              go_ret
              exact ⟨rfl, HEZ.out⟩
            · have HM2 := Lib.hid hm2
              have HX := Lib.hid (show ∃ n ∈ sm, meetP old next others n = true by
                obtain ⟨n, hn, h5, h6⟩ := meets HY.out HM1.out hm2
                refine ⟨n, hn, ?_⟩
                unfold meetP
                rw [h5, Bool.true_and, Bool.or_eq_true]; exact h6)
              clear hm2
              go_wp2_with fail
              refine (Majority_calls _ _ _ _ _ next others (H2.out.ext HE.out) (H4.out.ext HE.out)).mono ?_
              rw [HM2.out]; rintro e wq ⟨rfl, rfl⟩
              go_wp2_with (first | (go_at_call 25; go_in) | fail)
              refine (MeetsIdx_calls _ (· < w.heap.size) _ _ _ _ _ _ _ old next others _ sm k1 k2 k3 (H1.out.ext HE.out) (H2.out.ext HE.out) (H4.out.ext HE.out) (H3.out.ext HE.out) HX.out).mono ?_
              rintro e wq ⟨⟨i, rfl⟩, rfl⟩
              go_wp2_with fail
              refine (awake_calls _).mono ?_
              rintro e wz ⟨rfl, hez⟩
              have HEZ := Lib.hid (HE.out.trans hez)
              clear hez
              go_wp2
              go_ret
              exact ⟨rfl, HEZ.out⟩
end Go.Proofs.Ythodhajjnjfbfaa
