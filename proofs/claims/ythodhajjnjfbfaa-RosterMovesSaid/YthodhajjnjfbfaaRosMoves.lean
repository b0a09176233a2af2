/-
  The reference's Join and Leave.
-/
import Derived.Test.YthodhajjnjfbfaaRosLeave
import Derived.Test.YthodhajjnjfbfaaStep
set_option linter.unusedVariables false
set_option linter.unusedSimpArgs false
namespace Go.Proofs.Ythodhajjnjfbfaa
open Go.RowKit

set_option maxHeartbeats 400000 in
theorem RefLeave_calls (w : World) (S : Nat → Prop) (v : Value) (l : List Int) (hr : Rs kInt w S v l) (n : Int) (hsz : l.length ≤ 1000000) :
    Calls Try.prog 30 #[v, .int .i64 n] w fun e w' => ∃ u, e = .returned u ∧ Ow kInt 3 w' w.heap.size (w.heap.size ≤ ·) u (leaveL l n) ∧ Ext w w' := by
  have HI := Lib.hid hr.ints_I64
  obtain ⟨A, c, rfl, hl, hc, hz, hrow⟩ := hr
  have HR := Lib.hid hrow
  clear hrow
  go_enter Try.func30, Try.ntmps30
  go_wp2
  go_loopw [5, 10] (fun u i wr => ∃ k : Nat, k ≤ l.length ∧ i = .int .i64 k ∧ Hid (Ow kInt 3 wr w.heap.size (w.heap.size ≤ ·) u (leaveL (l.take k) n)) ∧ Hid (Ext w wr)) (fun _ i _ => l.length - (intOf i).toNat)
  case atStart => exact ⟨0, Nat.zero_le _, rfl, Lib.hid (Ow.nil _ _ _ _ _), Lib.hid (Ext.refl _)⟩
  case round =>
    obtain ⟨k, hk, rfl, HO, HE⟩ := hrel
    by_cases hlt : k < l.length
    · have hrow := HR.out.keep (w' := wr) fun b hb hl => HE.out.block b hl
      obtain ⟨ad, rfl, hcell, hIx⟩ := hrow.int hlt
      have HIX := Lib.hid hIx
      have HS := Lib.hid (leaveL_take_succ l n k hlt)
      have HL := Lib.hid (leaveL_le (l.take k) n)
      clear hrow hIx
      generalize l[k] = x at hcell HIX HS
      by_cases he : x = n
      · have HF := Lib.hid (show leaveL (l.take (k + 1)) n = leaveL (l.take k) n by rw [HS.out, if_pos he])
        have hb : (x != n) = false := by simp [he]
        clear he
        go_wp2
        go_roundw
        case rel => exact ⟨k + 1, by omega, by go_num, by rw [HF.out]; exact HO, HE⟩
        case measure => simp [intOf]; omega
      · have HF := Lib.hid (show leaveL (l.take (k + 1)) n = leaveL (l.take k) n ++ [x] by rw [HS.out, if_neg he])
        have hb : (x != n) = true := bne_iff_ne.2 he
        clear he
        go_wp2_with (at_builtin; refine wpList_append_Rs kInt rfl (.tmp 17) (.tmp 19) 22 3 rfl tInts w.heap.size _ _ _ [x] (w.heap.size ≤ ·) _ rfl rfl (HO.out.alloc _) (Rs.one_int _ _ _ rfl _ HIX.out) (fun _ _ h => h) ?cn ?cb ?cz ?_)
        case cn => intro b hb; have := HE.out.le; (try simp at hb); omega
        case cb => have := HL.out; rw [List.length_take] at this; (try simp); omega
        case cz => have := HE.out.le; (try simp); omega
        intro v' w2 ho hg _
        have HO2 := Lib.hid ho
        have HE2 := Lib.hid ((HE.out.alloc (.cells #[.int .i64 x] 3)).grown hg HO.out.from_)
        clear ho hg
        go_wp2
        go_roundw
        case rel => exact ⟨k + 1, by omega, by go_num, by rw [HF.out]; exact HO2, HE2⟩
        case measure => simp [intOf]; omega
    · obtain rfl : k = l.length := by omega
      rw [List.take_length] at HO
      clear hlt
      go_wp2
      go_ret
      exact ⟨_, rfl, HO.out, HE.out⟩

/-! ### the least one first -/
theorem isort_least (l : List Int) (i : Nat) (hi : i < l.length) (h : ∀ x ∈ l, l[i] ≤ x) : isort l = l[i] :: isort (l.take i ++ l.drop (i + 1)) := by
  symm
  refine srt_isort ?_ ?_
  · refine List.pairwise_cons.2 ⟨fun x hx => ?_, isort_srt _⟩
    have := (isort_perm _).mem_iff.1 hx
    refine h x ?_
    rcases List.mem_append.1 this with h1 | h1
    · exact List.mem_of_mem_take h1
    · exact List.mem_of_mem_drop h1
  · refine (List.Perm.cons _ (isort_perm _)).trans ?_
    have e : l = l.take i ++ l[i] :: l.drop (i + 1) := by
      conv => lhs; rw [← List.take_append_drop i l]
      rw [List.drop_eq_getElem_cons hi]
    conv => rhs; rw [e]
    exact List.perm_middle.symm
/-- A slice value's length. -/
def slLen : Value → Nat
  | .slice _ n _ => n
  | _ => 0
theorem leastIs (l : List Int) (i : Nat) (hi : i < l.length) (h : ∀ j (hj : j < l.length), l[i] ≤ l[j]) : ∀ x ∈ l, l[i] ≤ x := by
  intro x hx
  obtain ⟨j, hj, rfl⟩ := List.getElem_of_mem hx
  exact h j hj
theorem hasB_app (l : List Int) : l.length = l.length := rfl

set_option maxRecDepth 100000 in
set_option maxHeartbeats 4000000 in
theorem RefJoin_calls (w : World) (S : Nat → Prop) (v : Value) (l : List Int) (hr : Rs kInt w S v l) (n : Int) (hn : I64 n) (hsz : l.length ≤ 1000000) :
    Calls Try.prog 29 #[v, .int .i64 n] w fun e w' => ∃ u, e = .returned u ∧ Rs kInt w' (fun _ => True) u (joinL l n) ∧ Ext w w' := by
  have HR := Lib.hid hr
  have HN := Lib.hid hn
  clear hr hn
  cases hb : hasB l n
  · have HB := Lib.hid hb
    have HJ := Lib.hid (show joinL l n = isort (l ++ [n]) by unfold joinL; rw [hb]; rfl)
    clear hb
    go_enter Try.func29, Try.ntmps29
    go_wp2_with fail
    refine (RefVotes_calls _ _ _ l n HR.out).mono ?_
    rw [HB.out]; rintro e w' ⟨rfl, rfl⟩
    go_wp2_with (at_builtin; refine wpList_append_Rs kInt rfl (.tmp 13) (.tmp 14) 22 3 rfl tInts w.heap.size _ _ [] l (w.heap.size ≤ ·) S rfl rfl ?co (HR.out.alloc _) (fun _ _ h => h) ?cn ?cb ?cz ?_)
    case co => exact Ow.slit (xs := []) (heap_alloc_new _ _) (Nat.le_refl _) (Nat.le_refl _) (by simp) (by simp)
    case cn => intro b hb; simp at hb; omega
    case cb => (try simp); omega
    case cz => simp
    intro v1 w1 ho hg _
    have HO := Lib.hid ho
    have HE := Lib.hid (((Ext.refl w).alloc _).grown hg (fun k hk => by simp [Value.ownBlock] at hk; omega))
    clear ho hg
    go_wp2_with (at_builtin; refine wpList_append_Rs kInt rfl (.tmp 15) (.tmp 17) 22 3 rfl tInts w.heap.size _ _ _ [n] (w.heap.size ≤ ·) _ rfl rfl (HO.out.alloc _) (Rs.one_int _ _ _ rfl _ HN.out) (fun _ _ h => h) ?cn2 ?cb2 ?cz2 ?_)
    case cn2 => intro b hb; have := HE.out.le; (try simp at hb); omega
    case cb2 => (try simp); omega
    case cz2 => have := HE.out.le; (try simp); omega
    intro v2 w2 ho hg _
    have HO2 := Lib.hid (show Ow kInt 3 w2 w.heap.size (fun b => v2.ownBlock = some b) v2 (l ++ [n]) from ho.own)
    have HE2 := Lib.hid ((HE.out.alloc (.cells #[.int .i64 n] 3)).grown hg HO.out.from_)
    have HLN := Lib.hid (show (l ++ [n]).length ≤ 1000001 by simp; omega)
    have HIS := Lib.hid (show ([] : List Int) ++ isort (l ++ [n]) = joinL l n by rw [HJ.out]; rfl)
    clear ho hg HO HE
    generalize l ++ [n] = rs0 at HO2 HLN HIS
    obtain ⟨A2, c2, rfl⟩ := HO2.out.rs.isS
    go_wp2_with fail
    go_loopw [5, 6] (fun u v wr => ∃ (os rs : List Int) (c : Nat) (A : Option Addr), v = .slice A rs.length c ∧ Hid (os ++ isort rs = joinL l n) ∧ Hid (os.length + rs.length ≤ 1000001) ∧ Hid (Ow kInt 3 wr w.heap.size (fun b => u.ownBlock = some b) u os) ∧ Hid (Ow kInt 3 wr w.heap.size (fun b => v.ownBlock = some b) v rs) ∧ Hid (Apart u v) ∧ Hid (Ext w wr)) (fun _ v _ => slLen v)
    case atStart => exact ⟨[], rs0, c2, A2, rfl, HIS, Lib.hid (by have := HLN.out; simpa using this), Lib.hid (Ow.nil _ _ _ _ _), HO2, Lib.hid Apart.nil, HE2⟩
    case round =>
      clear HO2 HE2 HIS HLN
      obtain ⟨os, rs, c, A, rfl, HIS, HLN, HO, HP, HA, HE⟩ := hrel
      by_cases hpos : 0 < rs.length
      · obtain ⟨g, cap, hform, hgb, hgl, hcap, _⟩ := HP.out.form hpos
        injection hform with e1 e2 e3
        subst e1; subst e3
        have hcm : c ≤ 9223372036854775807 := by obtain ⟨_, _, e, _, h, _⟩ := HP.out.rs; injection e with _ _ e; omega
        have hd : decide (0 < rs.length) = true := decide_eq_true hpos
        have hrl : rs.length ≤ 1000001 := by have := HLN.out; omega
        obtain ⟨wo, rfl⟩ : ∃ wo : World, wo = wr := ⟨_, rfl⟩
        go_wp2_with fail
        go_loopw [7, 24] (fun a i wr => ∃ (m k q : Nat), a = .int .i64 m ∧ i = .int .i64 k ∧ k ≤ rs.length ∧ m < rs.length ∧ Hid (wr = wo.drewN q) ∧ Hid (∀ j (hj : j < rs.length) (hm : m < rs.length), j < k → rs[m] ≤ rs[j])) (fun _ i _ => rs.length - (intOf i).toNat)
        case atStart => exact ⟨0, 0, 0, rfl, rfl, by omega, hpos, Lib.hid rfl, Lib.hid (fun j _ _ h => by omega)⟩
        case round =>
          obtain ⟨m, k, q, rfl, rfl, hk, hm, HW, HM⟩ := hrel
          by_cases hlt : k < rs.length
          · have hw := HW.out
            subst hw
            have hc1 := (HP.out.scell k hlt).1
            have hc2 := (HP.out.scell m hm).1
            have hki : (k : Int) < (rs.length : Int) := by omega
            have hmi : (m : Int) < (rs.length : Int) := by omega
            by_cases hlss : rs[k] < rs[m]
            · have HM' := Lib.hid (show ∀ j (hj : j < rs.length) (hm : k < rs.length), j < k + 1 → rs[k] ≤ rs[j] from fun j hj _ h => by
                rcases Nat.lt_or_ge j k with h1 | h1
                · have := HM.out j hj hm h1; omega
                · obtain rfl : j = k := by omega
                  exact Int.le_refl _)
              have hdd : decide (rs[k] < rs[m]) = true := decide_eq_true hlss
              clear hlss HM HW
              generalize rs[k] = x at hc1 hdd
              generalize rs[m] = y at hc2 hdd
              have hc1' : wo.cell? ⟨g, k, none⟩ = some (.int .i64 x) := hc1
              have hc2' : wo.cell? ⟨g, m, none⟩ = some (.int .i64 y) := hc2
              clear hc1 hc2
              go_wp2_with fail
              go_quiet (fail)
              go_wp2_with fail
              go_roundw
              case rel => exact ⟨k, k + 1, _, rfl, by go_num, by omega, hlt, Lib.hid rfl, HM'⟩
              case measure => simp [intOf]; omega
            · have HM' := Lib.hid (show ∀ j (hj : j < rs.length) (hm : m < rs.length), j < k + 1 → rs[m] ≤ rs[j] from fun j hj _ h => by
                rcases Nat.lt_or_ge j k with h1 | h1
                · exact HM.out j hj hm h1
                · obtain rfl : j = k := by omega
                  omega)
              have hdd : decide (rs[k] < rs[m]) = false := decide_eq_false hlss
              clear hlss HM HW
              generalize rs[k] = x at hc1 hdd
              generalize rs[m] = y at hc2 hdd
              have hc1' : wo.cell? ⟨g, k, none⟩ = some (.int .i64 x) := hc1
              have hc2' : wo.cell? ⟨g, m, none⟩ = some (.int .i64 y) := hc2
              clear hc1 hc2
              go_wp2_with fail
              go_quiet (fail)
              go_wp2_with fail
              go_roundw
              case rel => exact ⟨m, k + 1, _, rfl, by go_num, by omega, hm, Lib.hid rfl, HM'⟩
              case measure => simp [intOf]; omega
          · obtain rfl : k = rs.length := by omega
            clear hlt
            have hmin := leastIs rs m hm (fun j hj => HM.out j hj hm hj)
            have HMS := Lib.hid (isort_least rs m hm hmin)
            have hI : I64 rs[m] := HP.out.rs.ints_I64 _ (List.getElem_mem _)
            have HI := Lib.hid hI
            have hw := HW.out
            subst hw
            have hc2 := (HP.out.scell m hm).1
            have hmi : (m : Int) < (rs.length : Int) := by omega
            clear hmin HM HW hI
            generalize rs[m] = y at hc2 HMS HI
            have hc2' : wo.cell? ⟨g, m, none⟩ = some (.int .i64 y) := hc2
            clear hc2
            have HO1 := Lib.hid (HO.out.drewN q)
            have HP1 := Lib.hid (HP.out.drewN q)
            have HE1 := Lib.hid (HE.out.drewN q)
            clear HO HP HE
            go_wp2_with (at_builtin; refine wpList_append_Rs kInt rfl (.tmp 38) (.tmp 43) 22 3 rfl tInts w.heap.size _ _ _ [y] (fun _ => True) _ rfl rfl (HO1.out.all.alloc _) (Rs.one_int _ _ _ rfl _ HI.out) (fun _ _ h => h) (fun _ _ => trivial) ?cb3 ?cz3 ?_)
            case cb3 => have := HLN.out; (try simp); omega
            case cz3 => have := HE1.out.le; (try simp); omega
            intro u2 wa hou hg hown
            have HO2 := Lib.hid hou.own
            have HP2 := Lib.hid ((HP1.out.alloc (.cells #[.int .i64 y] 3)).apart HA.out hg)
            have HA2 := Lib.hid (HA.out.grown hown (fun q hq => Nat.lt_of_lt_of_le (HP1.out.lt q hq) (by simp)))
            have HE2 := Lib.hid ((HE1.out.alloc (.cells #[.int .i64 y] 3)).grown hg HO1.out.from_)
            clear hou hg hown HO1 HP1 HE1 HA
            have hgw : g < wa.heap.size := HP2.out.lt g rfl
            have HF1 := Lib.hid (HP2.out.rs.to_ (h := m) rfl (by omega))
            have HF2 := Lib.hid (HP2.out.rs.from_ (l := m + 1) rfl (by omega))
            have hs1 : ∀ W, (Instr.sliceAt 22 (.slice (some ⟨g, 0, none⟩) rs.length c) none (some (.int .i64 (m : Int))) none).run Try.prog W = .ok (partV (some ⟨g, 0, none⟩) c 0 m) W := slice_to tInts _ _ _ _ _ m rfl (by omega)
            have hs2 : ∀ W, (Instr.sliceAt 22 (.slice (some ⟨g, 0, none⟩) rs.length c) (some (.int .i64 ((m : Int) + 1))) none none).run Try.prog W = .ok (partV (some ⟨g, 0, none⟩) c (m + 1) rs.length) W := slice_from tInts _ _ _ _ _ (m + 1) (by omega) (by omega)
            have hwr : IntKind.i64.wrap ((m : Int) + 1) = (m : Int) + 1 := IntWalk.i64_in _ (by omega)
            go_wp2_with fail
            have HAB : Hid (∀ z : Nat, ∀ k, (Value.slice (some ⟨wa.heap.size, 0, none⟩) 0 0).ownBlock = some k → ¬ ((Value.slice (some ⟨g, 0, none⟩) rs.length c).ownBlock = some k)) := Lib.hid (fun _ k hk h => by injection hk with hk; injection h with h; have hk' : wa.heap.size = k := hk; have h' : g = k := h; omega)
            have HS0 : Hid (∀ v', some v' = some (Value.slice (some ⟨wa.heap.size, 0, none⟩) 0 0) → True) := Lib.hid (fun _ _ => trivial)
            have HSL : Hid (Ow kInt 3 (wa.alloc (.cells #[] 3)).drew w.heap.size (fun _ => True) (.slice (some ⟨wa.heap.size, 0, none⟩) 0 0) []) := Lib.hid ((Ow.slit (xs := []) (heap_alloc_new _ _) HE2.out.le trivial (by simp) (by simp)).drew)
            go_region_law (first
              | (refine step_append_Rs kInt 49 rfl rfl (.tmp 45) (.tmp 48) 22 3 rfl tInts w.heap.size (.slice (some ⟨wa.heap.size, 0, none⟩) 0 0) _ [] (rs.take m) (fun _ => True) _ rfl rfl HSL.out (HF1.out.alloc _).drew (fun _ _ h => h) (fun _ _ => trivial) (by have := HLN.out; simp; omega) (by have := HE2.out.le; (try simp); omega) ?_; intro v3 w3 ho3 hg3 hown3)
              | (refine step_append_Rs kInt 54 rfl rfl (.tmp 49) (.tmp 53) 22 3 rfl tInts w.heap.size v3 _ _ (rs.drop (m + 1)) (fun _ => True) _ rfl rfl ho3 ((HF2.out.alloc _).drew.grown hg3 (HAB.out 0)) (fun _ _ h => h) (fun _ _ => trivial) (by have := HLN.out; simp; omega) (by have := HE2.out.le; have := hg3.size; (try simp at this); omega) ?_; intro v4 w4 ho4 hg4 hown4))
            all_goals
              have HAN : Hid (Apart (.slice (some ⟨wa.heap.size, 0, none⟩) 0 0) u2) := Lib.hid (fun k hk h => by
                injection hk with hk
                have hk' : wa.heap.size = k := hk
                have := HO2.out.lt k h
                omega)
              have hlu : ∀ k, u2.ownBlock = some k → k < (wa.alloc (.cells #[] 3)).drew.heap.size := fun k h => Nat.lt_of_lt_of_le (HO2.out.lt k h) (by simp)
              have HO3 := Lib.hid ((HO2.out.alloc (.cells #[] 3)).drew.apart HAN.out hg3)
              have HA3 := Lib.hid (HAN.out.grown hown3 hlu)
              have HO4 := Lib.hid (HO3.out.apart HA3.out hg4)
              have HA4 := Lib.hid ((HA3.out.grown hown4 HO3.out.lt).symm)
              have HE3 := Lib.hid ((HE2.out.alloc (.cells #[] 3)).drew.grown hg3 HSL.out.from_)
              have HE4 := Lib.hid (HE3.out.grown hg4 ho3.from_)
              have HP4 := Lib.hid (show Ow kInt 3 w4 w.heap.size (fun b => v4.ownBlock = some b) v4 (rs.take m ++ rs.drop (m + 1)) from (show Ow kInt 3 w4 w.heap.size (fun b => v4.ownBlock = some b) v4 ([] ++ rs.take m ++ rs.drop (m + 1)) from ho4.own))
              have HIS4 := Lib.hid (show (os ++ [y]) ++ isort (rs.take m ++ rs.drop (m + 1)) = joinL l n by rw [List.append_assoc, List.singleton_append, ← HMS.out, HIS.out])
              have hrl4 : (rs.take m ++ rs.drop (m + 1)).length = rs.length - 1 := by rw [List.length_append, List.length_take, List.length_drop]; omega
              have HRL4 := Lib.hid hrl4
              have HLN4 := Lib.hid (show (os ++ [y]).length + (rs.take m ++ rs.drop (m + 1)).length ≤ 1000001 by have := HLN.out; rw [hrl4, List.length_append, List.length_singleton]; omega)
              clear ho4 ho3 hg3 hg4 hown3 hown4 hlu hs1 hs2 hwr hrl4 HO2 HP2 HA2 HE2 HF1 HF2 HAB HSL HO3 HA3 HE3 HIS HLN HMS
              generalize rs.take m ++ rs.drop (m + 1) = rs4 at HP4 HIS4 HRL4 HLN4
              obtain ⟨A4, c4, rfl⟩ := HP4.out.rs.isS
              go_simp
              go_roundw
              · (repeat apply Exists.intro)
                exact ⟨⟨os ++ [y], rs4, c4, A4, rfl, HIS4, HLN4, HO4, HP4, HA4, HE4⟩, rfl⟩
              · have := HRL4.out
                show rs4.length < rs.length
                omega
      · have h0 : rs = [] := List.eq_nil_of_length_eq_zero (by omega)
        have HF := Lib.hid (show os = joinL l n by rw [← HIS.out, h0]; simp [isort])
        have hd : decide (0 < rs.length) = false := decide_eq_false hpos
        clear h0
        go_wp2_with fail
        go_ret
        exact ⟨_, rfl, by rw [← HF.out]; exact HO.out.rs.mono fun _ _ => trivial, HE.out⟩
  · have HB := Lib.hid hb
    have HJ := Lib.hid (show joinL l n = l by unfold joinL; rw [hb]; rfl)
    clear hb
    obtain ⟨A, c, rfl⟩ := HR.out.isS
    go_enter Try.func29, Try.ntmps29
    go_wp2_with fail
    refine (RefVotes_calls _ _ _ l n HR.out).mono ?_
    rw [HB.out]; rintro e w' ⟨rfl, rfl⟩
    go_wp2
    go_ret
    exact ⟨_, rfl, by rw [HJ.out]; exact HR.out.mono fun _ _ => trivial, Ext.refl _⟩
end Go.Proofs.Ythodhajjnjfbfaa
