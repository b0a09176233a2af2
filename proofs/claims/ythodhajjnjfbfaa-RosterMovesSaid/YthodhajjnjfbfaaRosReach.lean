/-
  The walk of RosterReached.
-/
import Derived.Test.YthodhajjnjfbfaaRosLaws
set_option linter.unusedVariables false
set_option linter.unusedSimpArgs false
namespace Go.Proofs.Ythodhajjnjfbfaa
open Go.RowKit

/-- Those of the first k places that reached x. -/
def hereL (r : List Int) (x : Int) (k : Nat) : List Int := (upto k).filter (fun n => decide (x ≤ r.getD n.toNat 0))
theorem hereL_succ (r : List Int) (x : Int) (k : Nat) (hk : k < r.length) : hereL r x (k + 1) = if x ≤ r[k] then hereL r x k ++ [(k : Int)] else hereL r x k := by
  show (upto k ++ [(k : Int)]).filter _ = _
  rw [List.filter_append]
  have : r.getD (k : Int).toNat 0 = r[k] := by rw [Int.toNat_natCast, List.getD_eq_getElem?_getD, List.getElem?_eq_getElem hk, Option.getD_some]
  by_cases h : x ≤ r[k]
  · rw [if_pos h, List.filter_cons_of_pos (by rw [decide_eq_true_eq, this]; exact h), List.filter_nil]; rfl
  · rw [if_neg h, List.filter_cons_of_neg (by rw [decide_eq_true_eq, this]; exact h), List.filter_nil, List.append_nil]; rfl
theorem hereL_le (r : List Int) (x : Int) (k : Nat) : (hereL r x k).length ≤ k := by
  have := List.length_filter_le (fun n : Int => decide (x ≤ r.getD n.toNat 0)) (upto k)
  rw [upto_len] at this
  exact this
theorem hereL_has {r : List Int} {x : Int} {n : Int} (h0 : 0 ≤ n) : hasB (hereL r x r.length) n = true ↔ n < r.length ∧ x ≤ r.getD n.toNat 0 := by
  unfold hasB hereL
  rw [decide_eq_true_eq, List.mem_filter, mem_upto, decide_eq_true_eq]
  constructor
  · exact fun h => ⟨h.1.2, h.2⟩
  · exact fun h => ⟨⟨h0, h.1⟩, h.2⟩
theorem here_maj {voters r : List Int} (h : chk voters = true) (hp : 0 < agr voters r) : majB voters (hereL r (agr voters r) r.length) = true :=
  (maj_iff h _ hp fun n h0 _ => hereL_has h0).2 (Int.le_refl _)
theorem beyond_maj {voters r : List Int} (h : chk voters = true) : majB voters (hereL r (agr voters r + 1) r.length) = false := by
  have h0 := agr_nonneg voters r
  have := maj_iff (reached := r) (some := hereL r (agr voters r + 1) r.length) h (agr voters r + 1) (by omega) fun n h0 _ => hereL_has h0
  cases hm : majB voters (hereL r (agr voters r + 1) r.length)
  · rfl
  · have := this.1 hm; omega
theorem rch_set (r : List Int) (i : Nat) (hi : i < r.length) (z : Int) (hz : r[i] ≤ z) (n : Int) : rch r n ≤ rch (r.set i z) n := by
  unfold rch
  rw [List.length_set]
  by_cases h : n < r.length
  · rw [if_pos h, if_pos h]
    rw [List.getD_eq_getElem?_getD, List.getD_eq_getElem?_getD, List.getElem?_set]
    by_cases e : i = n.toNat
    · rw [if_pos e, if_pos (e ▸ hi)]
      have : r[n.toNat]? = some r[i] := by rw [← e]; exact List.getElem?_eq_getElem hi
      rw [this]; simp only [Option.getD_some]; omega
    · rw [if_neg e]; exact Int.le_refl _
  · rw [if_neg h, if_neg h]; exact Int.le_refl _
theorem reach_at (L : Nat) (a : Int) (h0 : 0 < L) (h2 : L ≤ 300) : ∃ J : Nat, wrap64 ((IntKind.u64.wrap a).tmod (L : Int)) = (J : Int) ∧ J < L := by
  have hq : 0 ≤ IntKind.u64.wrap a := by rw [IntKind.wrap_u64]; omega
  rw [Int.tmod_eq_emod_of_nonneg hq]
  have h3 := Int.emod_nonneg (IntKind.u64.wrap a) (show (L : Int) ≠ 0 by omega)
  have h4 := Int.emod_lt_of_pos (IntKind.u64.wrap a) (show (0 : Int) < (L : Int) by omega)
  generalize (IntKind.u64.wrap a) % (L : Int) = r at h3 h4
  exact ⟨r.toNat, by rw [IntWalk.wrap64_in _ (by omega)]; omega, by omega⟩
theorem Ow.own {α : Type} {P : α → Prop} {enc : α → Value} {h1 : ∀ x, (enc x).oneCell' = true} {w : World} {S : Nat → Prop} {v : Value} {xs : List α} {base : Nat} {e : TypeId} (h : Ow (Kd.scalar P enc h1) e w base S v xs) : Ow (Kd.scalar P enc h1) e w base (fun b => v.ownBlock = some b) v xs :=
  Ow.of_srow h.srow.1 h.2.1 (fun _ hk => hk) h.srow.2
/-- Two rows of the call's own lie apart. -/
def Apart (u v : Value) : Prop := ∀ k, u.ownBlock = some k → v.ownBlock ≠ some k
theorem Apart.nil {v : Value} : Apart (.slice none 0 0) v := fun k hk => by simp [Value.ownBlock] at hk
theorem Apart.symm {u v : Value} (h : Apart u v) : Apart v u := fun k hk e => h k e hk
theorem Apart.grown {u v u' : Value} {n : Nat} (h : Apart u v) (hu : u'.ownBlock = u.ownBlock ∨ u'.ownBlock = some n) (hv : ∀ k, v.ownBlock = some k → k < n) : Apart u' v := by
  intro k hk e
  rcases hu with hu | hu
  · exact h k (hu ▸ hk) e
  · rw [hu] at hk; injection hk with hk; have := hv k e; omega
theorem Ow.apart {w w' : World} {base : Nat} {u v : Value} {xs : List Int} (h : Ow kInt 3 w base (fun b => v.ownBlock = some b) v xs) (ha : Apart u v) (hg : w.grownBy w' u.ownBlock) : Ow kInt 3 w' base (fun b => v.ownBlock = some b) v xs :=
  h.grown hg fun k hk e => ha k hk e

set_option maxRecDepth 100000 in
set_option maxHeartbeats 4000000 in
theorem RosterReached_walk (w : World) (S1 : Nat → Prop) (v1 : Value) (voters : List Int) (h1 : Rs kInt w S1 v1 voters) (S2 : Nat → Prop) (v2 : Value) (reached : List Int) (h2 : Rs kInt w S2 v2 reached) (who : Int) (hwho : I64 who) (more : Int) (hmore : I64 more) :
    Calls Try.prog 5 #[v1, v2, .int .i64 who, .int .i64 more] w fun e w' => e = .returned (.bool true) ∧ Ext w w' := by
  obtain ⟨A1, c1, rfl⟩ := h1.isS
  obtain ⟨A2, c2, hv2, hl2, hc2, hz2, hrow2⟩ := id h2.under
  subst hv2
  have H1 := Lib.hid h1.under
  have H2 := Lib.hid h2.under
  have HR2 := Lib.hid hrow2
  have HI := Lib.hid h2.ints_I64
  have HM := Lib.hid hmore
  clear h1 h2 hrow2 hwho hmore
  go_enter Try.func5, Try.ntmps5
  go_wp2_with fail
  refine (light_calls _ _ _ [voters, reached] (Rs.two (heap_new w _ rfl _) trivial ((H1.out.alloc _).mono fun _ _ => trivial) ((H2.out.alloc _).mono fun _ _ => trivial))).mono ?_
  rintro e w1 ⟨rfl, hw⟩
  have HE := Lib.hid (hw ▸ (Ext.refl w).alloc _ : Ext w w1)
  clear hw
  cases hL : lightB [voters, reached]
  · have HL := Lib.hid hL
    clear hL
    go_wp2_with fail
    refine (awake_calls _).mono ?_
    rintro e wz ⟨rfl, hez⟩
    have HEZ := Lib.hid (HE.out.trans hez)
    clear hez
    go_wp2
    go_ret
    exact ⟨rfl, HEZ.out⟩
  · have HB := Lib.hid (light2 hL)
    clear hL
    cases hck : chk voters
    · have HK := Lib.hid (chkE_no hck)
      clear hck
      go_wp2_with fail
      refine (Check_calls _ _ _ voters (H1.out.ext HE.out)).mono ?_
      rw [HK.out]; rintro e wq ⟨rfl, rfl⟩
      go_wp2_with fail
      refine (awake_calls _).mono ?_
      rintro e wz ⟨rfl, hez⟩
      have HEZ := Lib.hid (HE.out.trans hez)
      clear hez
      go_wp2
      go_ret
      exact ⟨rfl, HEZ.out⟩
    · have HK := Lib.hid (chkE_yes hck)
      have HCK := Lib.hid hck
      clear hck
      go_wp2_with fail
      refine (Check_calls _ _ _ voters (H1.out.ext HE.out)).mono ?_
      rw [HK.out]; rintro e wq ⟨rfl, rfl⟩
      go_wp2_with fail
      refine (Agreed_calls _ _ _ _ _ voters reached (H1.out.ext HE.out) (H2.out.ext HE.out)).mono ?_
      rintro e w2 ⟨rfl, he⟩
      replace HE := Lib.hid (HE.out.trans he)
      clear he
      have hx0 := agr_nonneg voters reached
      generalize hxx : agr voters reached = x at hx0
      have HX := Lib.hid hxx
      clear hxx
      have hb300 := HB.out.2
      go_wp2_with fail
      go_loopw [10, 11, 32] (fun u v i wr => ∃ k : Nat, k ≤ reached.length ∧ i = .int .i64 k ∧ Hid (Ow kInt 3 wr w.heap.size (fun b => u.ownBlock = some b) u (hereL reached x k)) ∧ Hid (Ow kInt 3 wr w.heap.size (fun b => v.ownBlock = some b) v (hereL reached (x + 1) k)) ∧ Hid (Apart u v) ∧ Hid (Ext w wr)) (fun _ _ i _ => reached.length - (intOf i).toNat)
      case atStart => exact ⟨0, Nat.zero_le _, rfl, Lib.hid (Ow.nil _ _ _ _ _), Lib.hid (Ow.nil _ _ _ _ _), Lib.hid Apart.nil, HE⟩
      case round =>
        clear HE
        obtain ⟨k, hk, rfl, HO, HP, HA, HE⟩ := hrel
        by_cases hlt : k < reached.length
        · have hrow2 := HR2.out.keep (w' := wr) fun b hb hl => HE.out.block b hl
          obtain ⟨ad2, rfl, hcell2, _⟩ := hrow2.int hlt
          have HS1 := Lib.hid (hereL_succ reached x k hlt)
          have HS2 := Lib.hid (hereL_succ reached (x + 1) k hlt)
          have HL1 := Lib.hid (hereL_le reached x k)
          have HL2 := Lib.hid (hereL_le reached (x + 1) k)
          have HJ : Hid (I64 (k : Int)) := Lib.hid ⟨by omega, by omega⟩
          clear hrow2
          generalize reached[k] = y at hcell2 HS1 HS2
          by_cases hxy : x ≤ y
          · have HF1 := Lib.hid (show hereL reached x (k + 1) = hereL reached x k ++ [(k : Int)] by rw [HS1.out, if_pos hxy])
            have hd1 : decide (x ≤ y) = true := decide_eq_true hxy
            by_cases hyx : x < y
            · have HF2 := Lib.hid (show hereL reached (x + 1) (k + 1) = hereL reached (x + 1) k ++ [(k : Int)] by rw [HS2.out, if_pos (by omega)])
              have hd2 : decide (x < y) = true := decide_eq_true hyx
              clear hxy hyx
              go_wp2_with (at_builtin; refine wpList_append_Rs kInt rfl (.tmp 40) (.tmp 42) 22 3 rfl tInts w.heap.size _ _ _ [(k : Int)] (fun _ => True) _ rfl rfl (HO.out.all.alloc _) (Rs.one_int _ _ _ rfl _ HJ.out) (fun _ _ h => h) (fun _ _ => trivial) ?cb ?cz ?_)
              case cb => have := HL1.out; (try simp); omega
              case cz => have := HE.out.le; (try simp); omega
              intro u2 wa hou hg hown
              have HO2 := Lib.hid hou.own
              have HP2 := Lib.hid ((HP.out.alloc (.cells #[.int .i64 (k : Int)] 3)).apart HA.out hg)
              have HA2 := Lib.hid (HA.out.grown hown (fun q hq => Nat.lt_of_lt_of_le (HP.out.lt q hq) (by simp)))
              have HE2 := Lib.hid ((HE.out.alloc (.cells #[.int .i64 (k : Int)] 3)).grown hg HO.out.from_)
              clear hou hg hown HO HP HA HE
              go_wp2_with (at_builtin; refine wpList_append_Rs kInt rfl (.tmp 47) (.tmp 49) 22 3 rfl tInts w.heap.size _ _ _ [(k : Int)] (fun _ => True) _ rfl rfl (HP2.out.all.alloc _) (Rs.one_int _ _ _ rfl _ HJ.out) (fun _ _ h => h) (fun _ _ => trivial) ?cb2 ?cz2 ?_)
              case cb2 => have := HL2.out; (try simp); omega
              case cz2 => have := HE2.out.le; (try simp); omega
              intro v2 wb hov hg hown
              have HP3 := Lib.hid hov.own
              have HO3 := Lib.hid ((HO2.out.alloc (.cells #[.int .i64 (k : Int)] 3)).apart HA2.out.symm hg)
              have HA3 := Lib.hid ((HA2.out.symm.grown hown (fun q hq => Nat.lt_of_lt_of_le (HO2.out.lt q hq) (by simp))).symm)
              have HE3 := Lib.hid ((HE2.out.alloc (.cells #[.int .i64 (k : Int)] 3)).grown hg HP2.out.from_)
              clear hov hg hown HO2 HP2 HA2 HE2
              go_wp2
              go_roundw
              case rel => exact ⟨k + 1, by omega, by go_num, by rw [HF1.out]; exact HO3, by rw [HF2.out]; exact HP3, HA3, HE3⟩
              case measure => simp [intOf]; omega
            · have HF2 := Lib.hid (show hereL reached (x + 1) (k + 1) = hereL reached (x + 1) k by rw [HS2.out, if_neg (by omega)])
              have hd2 : decide (x < y) = false := decide_eq_false hyx
              clear hxy hyx
              go_wp2_with (at_builtin; refine wpList_append_Rs kInt rfl (.tmp 40) (.tmp 42) 22 3 rfl tInts w.heap.size _ _ _ [(k : Int)] (fun _ => True) _ rfl rfl (HO.out.all.alloc _) (Rs.one_int _ _ _ rfl _ HJ.out) (fun _ _ h => h) (fun _ _ => trivial) ?cb3 ?cz3 ?_)
              case cb3 => have := HL1.out; (try simp); omega
              case cz3 => have := HE.out.le; (try simp); omega
              intro u2 wa hou hg hown
              have HO2 := Lib.hid hou.own
              have HP2 := Lib.hid ((HP.out.alloc (.cells #[.int .i64 (k : Int)] 3)).apart HA.out hg)
              have HA2 := Lib.hid (HA.out.grown hown (fun q hq => Nat.lt_of_lt_of_le (HP.out.lt q hq) (by simp)))
              have HE2 := Lib.hid ((HE.out.alloc (.cells #[.int .i64 (k : Int)] 3)).grown hg HO.out.from_)
              clear hou hg hown HO HP HA HE
              go_wp2
              go_roundw
              case rel => exact ⟨k + 1, by omega, by go_num, by rw [HF1.out]; exact HO2, by rw [HF2.out]; exact HP2, HA2, HE2⟩
              case measure => simp [intOf]; omega
          · have HF1 := Lib.hid (show hereL reached x (k + 1) = hereL reached x k by rw [HS1.out, if_neg hxy])
            have HF2 := Lib.hid (show hereL reached (x + 1) (k + 1) = hereL reached (x + 1) k by rw [HS2.out, if_neg (by omega)])
            have hd1 : decide (x ≤ y) = false := decide_eq_false hxy
            have hd2 : decide (x < y) = false := decide_eq_false (by omega)
            clear hxy
            go_wp2
            go_roundw
            case rel => exact ⟨k + 1, by omega, by go_num, by rw [HF1.out]; exact HO, by rw [HF2.out]; exact HP, HA, HE⟩
            case measure => simp [intOf]; omega
        · obtain rfl : k = reached.length := by omega
          clear hlt
          have HM2 := Lib.hid (show majB voters (hereL reached (x + 1) reached.length) = false by rw [← HX.out]; exact beyond_maj HCK.out)
          have hx0' : decide (x < 0) = false := decide_eq_false (by omega)
          by_cases hxp : 0 < x
          · have HM1 := Lib.hid (show majB voters (hereL reached x reached.length) = true by rw [← HX.out]; exact here_maj HCK.out (by rw [HX.out]; exact hxp))
            have hdx : decide (0 < x) = true := decide_eq_true hxp
            clear hxp hx0
            go_wp2_with fail
            refine (Majority_calls _ _ _ _ _ voters _ (H1.out.ext HE.out) HO.out.rs).mono ?_
            rw [HM1.out]; rintro e wq ⟨rfl, rfl⟩
            go_wp2_with fail
            refine (Majority_calls _ _ _ _ _ voters _ (H1.out.ext HE.out) HP.out.rs).mono ?_
            rw [HM2.out]; rintro e wq ⟨rfl, rfl⟩
            clear HO HP HA
            by_cases hlen : 0 < reached.length
            · have hdl : decide (0 < reached.length) = true := decide_eq_true hlen
              obtain ⟨J, hJ, hJl⟩ := reach_at reached.length who hlen hb300
              go_wp2_with fail
              refine (CloneI_calls _ _ _ reached (H2.out.ext HE.out) (by omega)).mono ?_
              rintro e w3 ⟨af, rfl, ho, he⟩
              obtain ⟨g, cap, rfl, hgb, hgl, hcap, _⟩ := ho.form hlen
              have hcell := (ho.scell J hJl).1
              have hfr := (ho.scell J hJl).2
              have HE3 := Lib.hid (HE.out.trans he)
              have HZ := Lib.hid (agr_mono (r := reached) (r' := reached.set J (max reached[J] more)) HCK.out (rch_set reached J hJl _ (by omega)))
              have HG := Lib.hid (ho.sset J (max reached[J] more) (by have h5 := HI.out _ (List.getElem_mem hJl); have h6 := HM.out; unfold I64 at h5 h6 ⊢; omega)).1.rs
              have hgb' : w.heap.size ≤ g := by have := HE.out.le; omega
              clear ho he
              have hJi : (J : Int) < (reached.length : Int) := by omega
              generalize reached[J] = y at hcell HZ HG
              generalize hrs : reached.set J (max y more) = rs at HZ HG
              have hrl : rs.length = reached.length := by rw [← hrs, List.length_set]
              have HRL := Lib.hid hrl
              clear hrs hrl
              go_wp2_with fail
              have HE4 := Lib.hid (HE3.out.seti (i := J) hgb' (.int .i64 (max y more)))
              refine (Agreed_calls _ _ _ _ _ voters rs (H1.out.ext HE4.out) HG.out).mono ?_
              rintro e w4 ⟨rfl, he⟩
              have hdz : decide (agr voters rs < x) = false := decide_eq_false (by have := HZ.out; rw [HX.out] at this; omega)
              replace HE := Lib.hid (HE4.out.trans he)
              clear he HE3 HE4
              generalize agr voters rs = z at hdz
              go_wp2_with fail
              refine (awake_calls _).mono ?_
              rintro e wz ⟨rfl, hez⟩
              have HEZ := Lib.hid (HE.out.trans hez)
              clear hez
              go_wp2
              go_ret
              exact ⟨rfl, HEZ.out⟩
            · have hdl : decide (0 < reached.length) = false := decide_eq_false hlen
              go_wp2_with fail
              refine (awake_calls _).mono ?_
              rintro e wz ⟨rfl, hez⟩
              have HEZ := Lib.hid (HE.out.trans hez)
              clear hez
              go_wp2
              go_ret
              exact ⟨rfl, HEZ.out⟩
          · have hdx : decide (0 < x) = false := decide_eq_false hxp
            clear hxp hx0
            go_wp2_with fail
            refine (Majority_calls _ _ _ _ _ voters _ (H1.out.ext HE.out) HP.out.rs).mono ?_
            rw [HM2.out]; rintro e wq ⟨rfl, rfl⟩
            clear HO HP HA
            by_cases hlen : 0 < reached.length
            · have hdl : decide (0 < reached.length) = true := decide_eq_true hlen
              obtain ⟨J, hJ, hJl⟩ := reach_at reached.length who hlen hb300
              go_wp2_with fail
              refine (CloneI_calls _ _ _ reached (H2.out.ext HE.out) (by omega)).mono ?_
              rintro e w3 ⟨af, rfl, ho, he⟩
              obtain ⟨g, cap, rfl, hgb, hgl, hcap, _⟩ := ho.form hlen
              have hcell := (ho.scell J hJl).1
              have hfr := (ho.scell J hJl).2
              have HE3 := Lib.hid (HE.out.trans he)
              have HZ := Lib.hid (agr_mono (r := reached) (r' := reached.set J (max reached[J] more)) HCK.out (rch_set reached J hJl _ (by omega)))
              have HG := Lib.hid (ho.sset J (max reached[J] more) (by have h5 := HI.out _ (List.getElem_mem hJl); have h6 := HM.out; unfold I64 at h5 h6 ⊢; omega)).1.rs
              have hgb' : w.heap.size ≤ g := by have := HE.out.le; omega
              clear ho he
              have hJi : (J : Int) < (reached.length : Int) := by omega
              generalize reached[J] = y at hcell HZ HG
              generalize hrs : reached.set J (max y more) = rs at HZ HG
              have hrl : rs.length = reached.length := by rw [← hrs, List.length_set]
              have HRL := Lib.hid hrl
              clear hrs hrl
              go_wp2_with fail
              have HE4 := Lib.hid (HE3.out.seti (i := J) hgb' (.int .i64 (max y more)))
              refine (Agreed_calls _ _ _ _ _ voters rs (H1.out.ext HE4.out) HG.out).mono ?_
              rintro e w4 ⟨rfl, he⟩
              have hdz : decide (agr voters rs < x) = false := decide_eq_false (by have := HZ.out; rw [HX.out] at this; omega)
              replace HE := Lib.hid (HE4.out.trans he)
              clear he HE3 HE4
              generalize agr voters rs = z at hdz
              go_wp2_with fail
              refine (awake_calls _).mono ?_
              rintro e wz ⟨rfl, hez⟩
              have HEZ := Lib.hid (HE.out.trans hez)
              clear hez
              go_wp2
              go_ret
              exact ⟨rfl, HEZ.out⟩
            · have hdl : decide (0 < reached.length) = false := decide_eq_false hlen
              go_wp2_with fail
              refine (awake_calls _).mono ?_
              rintro e wz ⟨rfl, hez⟩
              have HEZ := Lib.hid (HE.out.trans hez)
              clear hez
              go_wp2
              go_ret
              exact ⟨rfl, HEZ.out⟩
end Go.Proofs.Ythodhajjnjfbfaa
