/-
  WireTorn.
-/
import Derived.Test.YtikbpgcalmndoaaTornLaw
import Derived.Test.YtikbpgcalmndoaaLawRows
import Derived.Test.YtikbpgcalmndoaaTurned
set_option linter.unusedVariables false
set_option linter.unusedSimpArgs false
namespace Go.Proofs.Ytikbpgcalmndoaa
open Go.RowKit

/-- A row of scalars needs no block but its own. -/
theorem Ow.own {α : Type} {P : α → Prop} {enc : α → Value} {h1 : ∀ x, (enc x).oneCell' = true} {w : World} {S : Nat → Prop} {v : Value} {xs : List α} {base : Nat} {e : TypeId} (h : Ow (Kd.scalar P enc h1) e w base S v xs) (S' : Nat → Prop) (hS : ∀ k, v.ownBlock = some k → S' k) : Ow (Kd.scalar P enc h1) e w base S' v xs :=
  ⟨hS, h.2.1, let ⟨cells, ho, hx⟩ := h.2.2; ⟨cells, ho, fun j x hj => hx j x hj⟩⟩
def ends (l : List (List UInt8)) (k : Nat) : List Int := (List.range k).map fun i => (endOf l (i + 1) : Int)
theorem ends_len (l : List (List UInt8)) (k : Nat) : (ends l k).length = k := by simp [ends]
theorem ends_succ (l : List (List UInt8)) (k : Nat) : ends l (k + 1) = ends l k ++ [(endOf l (k + 1) : Int)] := by simp [ends, List.range_succ]
theorem ends_get (l : List (List UInt8)) (k i : Nat) (h : i < (ends l k).length) : (ends l k)[i] = (endOf l (i + 1) : Int) := by simp [ends]
theorem torn_at (L : Nat) (a : Int) (h2 : L ≤ 200000) : ∃ J : Nat, wrap64 ((IntKind.u64.wrap a).tmod ((L : Int) + 1)) = (J : Int) ∧ J ≤ L := by
  have hq : 0 ≤ IntKind.u64.wrap a := by rw [IntKind.wrap_u64]; omega
  rw [Int.tmod_eq_emod_of_nonneg hq]
  have h3 := Int.emod_nonneg (IntKind.u64.wrap a) (show (L : Int) + 1 ≠ 0 by omega)
  have h4 := Int.emod_lt_of_pos (IntKind.u64.wrap a) (show (0 : Int) < (L : Int) + 1 by omega)
  generalize (IntKind.u64.wrap a) % ((L : Int) + 1) = r at h3 h4
  have e1 : wrap64 r = r := IntWalk.wrap64_in _ (by omega)
  rw [e1]
  exact ⟨r.toNat, by omega, by omega⟩

theorem Rs.one_int (W : World) (g e : Nat) (hg : W.heap.size = g) (n : Int) (hn : I64 n) : Rs kInt (W.alloc (.cells #[.int .i64 n] e)) (fun _ => True) (.slice (some ⟨g, 0, none⟩) 1 1) [n] :=
  ⟨_, 1, rfl, by simp, by omega, by simp, Row.of_block (heap_new W g hg _) trivial fun j x hj => by
    match j, hj with
    | 0, hj =>
      simp at hj; subst hj
      exact ⟨[.int .i64 n], ⟨rfl, hn⟩, fun i u hi => by
        cases i with
        | zero => simp at hi; subst hi; rfl
        | succ i => simp at hi⟩⟩

set_option maxRecDepth 100000 in
set_option maxHeartbeats 4000000 in
theorem WireTorn_walk (w : World) (S : Nat → Prop) (v : Value) (l : List (List UInt8)) (hr : Rs (kSlice kByte) w S v l) (kk : Int) (hkk : I64 kk) :
    Calls Try.prog 11 #[v, .int .i64 kk] w fun e w' => e = .returned (.bool true) ∧ Ext w w' := by
  have HL := Lib.hid hr.under
  obtain ⟨A, c, rfl, hl, hc, hz, hrow⟩ := hr
  clear hrow
  by_cases hbig : 50 < l.length
  · go_enter Try.func11, Try.ntmps11
    go_wp2_with fail
    refine (SumNil_calls _).mono ?_
    rintro e w' ⟨rfl, rfl⟩
    go_wp2
    go_ret
    exact ⟨rfl, Ext.refl _⟩
  have hl50 : l.length ≤ 50 := by omega
  clear hbig
  go_enter Try.func11, Try.ntmps11
  go_wp2_with fail
  go_loopw [5, 6, 24] (fun b e i wr => ∃ k : Nat, i = .int .i64 k ∧ k ≤ l.length ∧ Hid (∀ p ∈ l.take k, p.length ≤ 65536) ∧ (recs (l.take k)).length ≤ 131100 ∧ Hid (Ow kByte 5 wr w.heap.size (w.heap.size ≤ ·) b (recs (l.take k))) ∧
    Hid (Ow kInt 3 wr w.heap.size (w.heap.size ≤ ·) e (ends l k)) ∧ Hid (∀ g, b.ownBlock = some g → e.ownBlock ≠ some g) ∧ Hid (Ext w wr)) (fun _ _ i _ => l.length - (intOf i).toNat)
  case atStart => exact ⟨0, rfl, by omega, Lib.hid (by simp), by simp [recs], Lib.hid (Ow.nil _ _ _ _ _), Lib.hid (Ow.nil _ _ _ _ _), Lib.hid (fun g hg => by simp [Value.ownBlock] at hg), Lib.hid (Ext.refl _)⟩
  case round =>
    obtain ⟨k, rfl, hk, HALL, hlen, HB, HEN, HAP, HE⟩ := hrel
    by_cases hlt : k < l.length
    · obtain ⟨ad, pv, rfl, hcell, hpv⟩ := (HL.out.ext HE.out).shape.2.2.2.2.slice hlt
      have hki : (k : Int) < (l.length : Int) := by omega
      have HPV := Lib.hid hpv
      obtain ⟨Ap, cp, rfl, _⟩ := hpv
      obtain ⟨Ab, cb, rfl, _⟩ := HB.out.rs
      have htk := recs_take l k hlt
      have hse := endOf_succ l k hlt
      have hmem : ∀ p ∈ l.take (k + 1), p ∈ l.take k ∨ p = l[k] := fun p hp => by rw [take_snoc l k hlt, List.mem_append, List.mem_singleton] at hp; exact hp
      have HTK := Lib.hid htk
      have HSE := Lib.hid hse
      have HMEM := Lib.hid hmem
      clear htk hse hmem
      generalize l[k] = p at HPV HTK HSE HMEM hcell
      by_cases hp : 65536 < p.length
      · have hrec : record p = ([], 4) := by unfold record; rw [if_pos hp]
        have HREC := Lib.hid hrec
        clear hrec
        go_wp2_with fail
        refine (Record_calls _ _ _ _ HPV.out).mono ?_
        rw [HREC.out]
        rintro e w1 ⟨x, rfl, ho, he⟩
        have HE1 := Lib.hid (HE.out.trans he)
        clear ho he
        go_wp2
        go_ret
        exact ⟨rfl, HE1.out⟩
      have hrec : record p = (rcd p, 0) := by unfold record; rw [if_neg hp]
      have HREC := Lib.hid hrec
      have hrl := rcd_len p
      have hdl := digs_len p.length (by omega)
      have hrl2 : (rcd p).length ≤ 65550 := by omega
      clear hrec hrl hdl
      by_cases hb : 65536 < (recs (l.take k)).length
      · go_wp2_with fail
        refine (Record_calls _ _ _ _ HPV.out).mono ?_
        rw [HREC.out]
        rintro e w1 ⟨x, rfl, ho, he⟩
        have HE1 := Lib.hid (HE.out.trans he)
        clear ho he
        go_wp2
        go_ret
        exact ⟨rfl, HE1.out⟩
      have hb' : ((recs (l.take k)).length : Int) ≤ 65536 := by omega
      go_wp2_with fail
      refine (Record_calls _ _ _ _ HPV.out).mono ?_
      rw [HREC.out]
      rintro e w1 ⟨x, rfl, ho, he⟩
      have HE1 := Lib.hid (HE.out.trans he)
      have HX := Lib.hid ho.rs
      have HB1 := Lib.hid (HB.out.ext he)
      have HEN1 := Lib.hid (HEN.out.ext he)
      clear ho he HB HEN
      go_wp2_with (at_builtin; refine wpList_append_Rs kByte rfl (.tmp 48) (.tmp 49) 22 5 rfl tBytes w.heap.size _ _ _ _ (w.heap.size ≤ ·) _ rfl rfl HB1.out HX.out (fun _ _ h => h) ?cn ?cb HE1.out.le ?_)
      case cn => intro b hb; have := HE1.out.le; omega
      case cb => omega
      intro v2 w2 ho hg hor
      rw [← HTK.out] at ho
      have hlen2 : (recs (l.take (k + 1))).length ≤ 131100 := by rw [HTK.out, List.length_append]; omega
      have HAP2 : Hid (∀ g, v2.ownBlock = some g → u6.ownBlock ≠ some g) := Lib.hid fun g hg2 h6 => by
        rcases hor with h | h
        · exact HAP.out g (h ▸ hg2) h6
        · rw [h] at hg2; injection hg2 with hg2; have := HEN1.out.lt g h6; omega
      have HEN2 := Lib.hid (((HEN1.out.own (fun g => u6.ownBlock = some g) (fun g h => h)).grown hg (fun g h h6 => HAP.out g h h6)).own (w.heap.size ≤ ·) HEN1.out.from_)
      have HE2 := Lib.hid (HE1.out.grown hg HB1.out.from_)
      have HB2 := Lib.hid ho
      obtain ⟨Ab2, cb2, rfl, _⟩ := ho.rs
      clear ho hg hor HB1 HEN1 HAP HX
      go_wp2_with (at_builtin; refine wpList_append_Rs kInt rfl (.tmp 51) (.tmp 54) 65 3 rfl tInts w.heap.size _ _ _ [((recs (l.take (k + 1))).length : Int)] (w.heap.size ≤ ·) (fun _ => True) rfl rfl (HEN2.out.alloc _) (Rs.one_int _ _ _ rfl _ ?ci) (fun _ _ h => h) ?cn2 ?cb2 ?cz2 ?_)
      case ci => exact ⟨by omega, by omega⟩
      case cn2 => intro b hb; have := HE2.out.le; simp at hb; omega
      case cb2 => rw [ends_len]; simp; omega
      case cz2 => have := HE2.out.le; simp; omega
      intro v3 w3 ho hg hor
      rw [show ((recs (l.take (k + 1))).length : Int) = (endOf l (k + 1) : Int) from rfl, ← ends_succ] at ho
      have HB3 := Lib.hid ((((HB2.out.own (fun g => (Value.slice Ab2 (recs (l.take (k + 1))).length cb2).ownBlock = some g) (fun g h => h)).alloc _).grown hg (fun g h h6 => HAP2.out g h6 h)).own (w.heap.size ≤ ·) HB2.out.from_)
      have HAP3 : Hid (∀ g, (Value.slice Ab2 (recs (l.take (k + 1))).length cb2).ownBlock = some g → v3.ownBlock ≠ some g) := Lib.hid fun g hg2 h6 => by
        rcases hor with h | h
        · exact HAP2.out g hg2 (h ▸ h6)
        · rw [h] at h6; injection h6 with h6; have := HB2.out.lt g hg2; have hsz := ((Ext.refl w2).alloc (.cells #[.int .i64 ((recs (l.take (k + 1))).length : Int)] 3)).le; omega
      have HE3 := Lib.hid ((HE2.out.alloc _).grown hg HEN2.out.from_)
      have HEN3 := Lib.hid ho
      have HALL3 : Hid (∀ q ∈ l.take (k + 1), q.length ≤ 65536) := Lib.hid fun q hq => by
        rcases HMEM.out q hq with h | h
        · exact HALL.out q h
        · rw [h]; omega
      clear ho hg hor HB2 HEN2 HAP2
      go_wp2
      go_roundw
      case rel => exact ⟨k + 1, by go_num, by omega, HALL3, hlen2, HB3, HEN3, HAP3, HE3⟩
      case measure => simp [intOf]; omega
    · obtain rfl : k = l.length := by omega
      have hall := HALL.out
      rw [List.take_length] at HB hlen hall
      have hlaw := torn l hall
      have HLAW := Lib.hid hlaw
      have HEL := Lib.hid (endOf_le l)
      clear hlt HALL HAP hlaw hall
      generalize recs l = bs at HB hlen HLAW HEL
      obtain ⟨Ab, cb, rfl, _⟩ := HB.out.rs
      obtain ⟨Ae, ce, rfl, _⟩ := HEN.out.rs
      obtain ⟨J, hJ, hJ1⟩ := torn_at bs.length kk (by omega)
      rw [ends_len] at *
      go_wp2_with fail
      rw [hJ]
      clear hJ
      have hro := HEN.out.rs.shape.2.2.2.2
      have HRW := Lib.hid hro
      clear hro
      go_loop [11] (fun n => ∃ m : Nat, n = .int .i64 m ∧ m ≤ l.length ∧ Hid (endOf l m ≤ J)) (fun n => l.length - (intOf n).toNat)
      case atStart => exact ⟨0, rfl, by omega, Lib.hid (by rw [endOf_zero]; omega)⟩
      case round =>
        obtain ⟨m, rfl, hm, HLE⟩ := hrel
        by_cases hml : m < l.length
        · obtain ⟨ad, rfl, hcell, _⟩ := HRW.out.int (j := m) (by rw [ends_len]; omega)
          rw [ends_get] at hcell
          have hmi : (m : Int) < (l.length : Int) := by omega
          have hnn : (0 : Int) ≤ (m : Int) := by omega
          by_cases hnx : endOf l (m + 1) ≤ J
          · have hnx' : (endOf l (m + 1) : Int) ≤ (J : Int) := by omega
            have HNX := Lib.hid hnx
            clear hnx
            go_wp2
            go_round
            case rel => exact ⟨m + 1, by go_num, by omega, HNX⟩
            case measure => simp [intOf]; omega
          · have hnx' : decide ((endOf l (m + 1) : Int) ≤ (J : Int)) = false := decide_eq_false (by omega)
            have HGT : Hid (m < l.length → J < endOf l (m + 1)) := Lib.hid fun _ => by omega
            have hnx2 : (J : Int) < (endOf l (m + 1) : Int) := by omega
            have HLE2 := Lib.hid (HLE.out)
            have HT := Lib.hid (HLAW.out m J hm hJ1 HLE.out HGT.out)
            have HM0 := Lib.hid (fun (h : m = 0) => show endOf l m = 0 by subst h; rfl)
            have hrw0 := HRW.out
            have HCL := Lib.hid (fun (m' : Nat) (h : m = m' + 1) => show ∃ ad0 : Addr, (some ad) = some ad0 ∧ wr.cell? (ad0.add m') = some (.int .i64 (endOf l m : Int)) by
              obtain ⟨ad, hA, hc, _⟩ := hrw0.int (j := m') (by rw [ends_len]; omega)
              rw [ends_get] at hc
              exact ⟨ad, hA, by rw [h]; exact hc⟩)
            clear hrw0 HLE HLAW HGT
            generalize endOf l m = E at HLE2 HT HM0 HCL
            have hto := slice_to tBytes Ab bs.length cb .i64 (J : Int) J rfl (by have := HB.out.rs.shape.2.1; omega)
            have hfrom := HB.out.rs.to_ (h := J) rfl hJ1
            have hto2 := slice_to tRows A l.length c .i64 (m : Int) m rfl (by omega)
            have hfrom2 := (HL.out.ext HE.out).to_ (h := m) rfl hm
            have hab := slice_of tBytes Ab bs.length cb .i64 .i64 (E : Int) (J : Int) E J rfl rfl HLE2.out (by have := HB.out.rs.shape.2.1; omega)
            have hpart := HB.out.rs.part (l := E) (h := J) rfl HLE2.out hJ1
            simp only [partV_eq, Nat.sub_zero] at hto hfrom hto2 hfrom2 hab hpart
            have HFROM := Lib.hid hfrom
            have HFROM2 := Lib.hid hfrom2
            have HPART := Lib.hid hpart
            clear hfrom hfrom2 hpart
            go_wp2_with fail
            refine (Rows_calls _ _ _ _ HFROM.out (by rw [List.length_take]; omega)).mono ?_
            rw [HT.out.1]
            rintro e w1 ⟨u1, rfl, ho, he⟩
            have H1 := Lib.hid ho.rs
            have HE1 := Lib.hid (HE.out.trans he)
            have HF2 := Lib.hid (HFROM2.out.ext he)
            have HPA := Lib.hid (HPART.out.ext he)
            have HWX := Lib.hid he
            clear ho he
            go_wp2_with fail
            refine (EqualFunc_same _ _ _ _ _ _ H1.out HF2.out).mono ?_
            rintro e w2 ⟨rfl, rfl⟩
            rcases m with _ | m
            · have hn0 : ((E : Int) != 0) = false := by rw [HM0.out rfl]; rfl
              clear HM0 HCL
              go_wp2_with fail
              refine (Pick_calls _ _ _ _ HPA.out).mono ?_
              rw [HT.out.2]
              rintro e w3 ⟨u3, rfl, ho, he⟩
              have HE3 := Lib.hid (HE1.out.trans he)
              clear ho he
              go_wp2
              go_ret
              exact ⟨rfl, HE3.out⟩
            · obtain ⟨ad', hAe, hcell'⟩ := HCL.out m rfl
              have hcell2 : w1.cell? (ad'.add m) = some (.int .i64 (E : Int)) := by
                rw [World.cell?_of_block (w := wr) (HWX.out.block _ (World.block_lt_of_cell? wr _ hcell'))]; exact hcell'
              first | subst hAe | (injection hAe with hAe; subst hAe) | skip
              have hmi : ((m + 1 : Nat) : Int) - 1 = (m : Int) := by omega
              have hml2 : (m : Int) < (l.length : Int) := by omega
              have hm0 : (0 : Int) < ((m + 1 : Nat) : Int) := by omega
              have hm1 : (((m + 1 : Nat) : Int) == 0) = false := beq_eq_false_iff_ne.2 (by omega)
              clear HM0 HCL hcell'
              go_wp2_with fail
              refine (Pick_calls _ _ _ _ HPA.out).mono ?_
              rw [HT.out.2]
              rintro e w3 ⟨u3, rfl, ho, he⟩
              have HE3 := Lib.hid (HE1.out.trans he)
              clear ho he
              go_wp2
              go_ret
              exact ⟨rfl, HE3.out⟩
        · have HGT : Hid (m < l.length → J < endOf l (m + 1)) := Lib.hid fun h => absurd h hml
          have hmd : decide ((m : Int) < (l.length : Int)) = false := decide_eq_false (by omega)
          have HLE2 := Lib.hid (HLE.out)
          have HT := Lib.hid (HLAW.out m J hm hJ1 HLE.out HGT.out)
          have HM0 := Lib.hid (fun (h : m = 0) => show endOf l m = 0 by subst h; rfl)
          have hrw0 := HRW.out
          have HCL := Lib.hid (fun (m' : Nat) (h : m = m' + 1) => show ∃ ad0 : Addr, Ae = some ad0 ∧ wr.cell? (ad0.add m') = some (.int .i64 (endOf l m : Int)) by
            obtain ⟨ad, hA, hc, _⟩ := hrw0.int (j := m') (by rw [ends_len]; omega)
            rw [ends_get] at hc
            exact ⟨ad, hA, by rw [h]; exact hc⟩)
          clear hrw0 HLE HLAW HGT
          generalize endOf l m = E at HLE2 HT HM0 HCL
          have hto := slice_to tBytes Ab bs.length cb .i64 (J : Int) J rfl (by have := HB.out.rs.shape.2.1; omega)
          have hfrom := HB.out.rs.to_ (h := J) rfl hJ1
          have hto2 := slice_to tRows A l.length c .i64 (m : Int) m rfl (by omega)
          have hfrom2 := (HL.out.ext HE.out).to_ (h := m) rfl hm
          have hab := slice_of tBytes Ab bs.length cb .i64 .i64 (E : Int) (J : Int) E J rfl rfl HLE2.out (by have := HB.out.rs.shape.2.1; omega)
          have hpart := HB.out.rs.part (l := E) (h := J) rfl HLE2.out hJ1
          simp only [partV_eq, Nat.sub_zero] at hto hfrom hto2 hfrom2 hab hpart
          have HFROM := Lib.hid hfrom
          have HFROM2 := Lib.hid hfrom2
          have HPART := Lib.hid hpart
          clear hfrom hfrom2 hpart
          go_wp2_with fail
          refine (Rows_calls _ _ _ _ HFROM.out (by rw [List.length_take]; omega)).mono ?_
          rw [HT.out.1]
          rintro e w1 ⟨u1, rfl, ho, he⟩
          have H1 := Lib.hid ho.rs
          have HE1 := Lib.hid (HE.out.trans he)
          have HF2 := Lib.hid (HFROM2.out.ext he)
          have HPA := Lib.hid (HPART.out.ext he)
          have HWX := Lib.hid he
          clear ho he
          go_wp2_with fail
          refine (EqualFunc_same _ _ _ _ _ _ H1.out HF2.out).mono ?_
          rintro e w2 ⟨rfl, rfl⟩
          rcases m with _ | m
          · have hn0 : ((E : Int) != 0) = false := by rw [HM0.out rfl]; rfl
            clear HM0 HCL
            go_wp2_with fail
            refine (Pick_calls _ _ _ _ HPA.out).mono ?_
            rw [HT.out.2]
            rintro e w3 ⟨u3, rfl, ho, he⟩
            have HE3 := Lib.hid (HE1.out.trans he)
            clear ho he
            go_wp2
            go_ret
            exact ⟨rfl, HE3.out⟩
          · obtain ⟨ad', hAe, hcell'⟩ := HCL.out m rfl
            have hcell2 : w1.cell? (ad'.add m) = some (.int .i64 (E : Int)) := by
              rw [World.cell?_of_block (w := wr) (HWX.out.block _ (World.block_lt_of_cell? wr _ hcell'))]; exact hcell'
            first | subst hAe | (injection hAe with hAe; subst hAe) | skip
            have hmi : ((m + 1 : Nat) : Int) - 1 = (m : Int) := by omega
            have hml2 : (m : Int) < (l.length : Int) := by omega
            have hm0 : (0 : Int) < ((m + 1 : Nat) : Int) := by omega
            have hm1 : (((m + 1 : Nat) : Int) == 0) = false := beq_eq_false_iff_ne.2 (by omega)
            clear HM0 HCL hcell'
            go_wp2_with fail
            refine (Pick_calls _ _ _ _ HPA.out).mono ?_
            rw [HT.out.2]
            rintro e w3 ⟨u3, rfl, ho, he⟩
            have HE3 := Lib.hid (HE1.out.trans he)
            clear ho he
            go_wp2
            go_ret
            exact ⟨rfl, HE3.out⟩
end Go.Proofs.Ytikbpgcalmndoaa
