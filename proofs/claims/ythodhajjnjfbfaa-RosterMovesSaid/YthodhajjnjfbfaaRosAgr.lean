/-
  What is agreed: the program's and the reference's.
-/
import Derived.Test.YthodhajjnjfbfaaRosSort
import Derived.Test.YthodhajjnjfbfaaRosMaj
set_option linter.unusedVariables false
set_option linter.unusedSimpArgs false
namespace Go.Proofs.Ythodhajjnjfbfaa
open Go.RowKit

theorem rch_lt {r : List Int} {n : Int} (h0 : 0 ≤ n) (h : n.toNat < r.length) : rch r n = max r[n.toNat] 0 := by
  unfold rch
  rw [if_pos (by omega), List.getD_eq_getElem?_getD, List.getElem?_eq_getElem h, Option.getD_some]
theorem rch_ge {r : List Int} {n : Int} (h : ¬ n < r.length) : rch r n = 0 := by unfold rch; rw [if_neg h]
theorem rch_I64 {r : List Int} (hr : ∀ x ∈ r, I64 x) {n : Int} (h0 : 0 ≤ n) : I64 (rch r n) := by
  by_cases h : n.toNat < r.length
  · rw [rch_lt h0 h]
    have := hr _ (List.getElem_mem h)
    unfold I64 at this ⊢
    omega
  · rw [rch_ge (by omega)]; exact ⟨by omega, by omega⟩
theorem Rs.ints_I64 {w : World} {S : Nat → Prop} {v : Value} {xs : List Int} (h : Rs kInt w S v xs) : ∀ x ∈ xs, I64 x := by
  obtain ⟨A, c, rfl, _, _, _, hr⟩ := h
  intro x hx
  obtain ⟨j, hj, rfl⟩ := List.getElem_of_mem hx
  obtain ⟨_, _, _, h⟩ := hr.int hj
  exact h
/-- What each of some has reached. -/
def rchs (r l : List Int) : List Int := l.map (rch r)
theorem rchs_len (r l : List Int) : (rchs r l).length = l.length := List.length_map _
theorem rchs_take_succ (r : List Int) (l : List Int) (k : Nat) (hk : k < l.length) : rchs r (l.take (k + 1)) = rchs r (l.take k) ++ [rch r l[k]] := by
  unfold rchs; rw [List.take_succ_eq_append_getElem hk, List.map_append]; rfl

set_option maxHeartbeats 1000000 in
theorem Agreed_calls (w : World) (S T : Nat → Prop) (u v : Value) (voters reached : List Int) (hu : Rs kInt w S u voters) (hv : Rs kInt w T v reached) :
    Calls Try.prog 18 #[u, v] w fun e w' => e = .returned (.int .i64 (agr voters reached)) ∧ Ext w w' := by
  have HU := Lib.hid hu
  have HI := Lib.hid hv.ints_I64
  obtain ⟨A, c, rfl, hl, hc, hz, hrow⟩ := hu
  have HR := Lib.hid hrow
  obtain ⟨A2, c2, rfl, hl2, hc2, hz2, hrow2⟩ := hv
  have HR2 := Lib.hid hrow2
  clear hrow hrow2
  cases hck : chk voters
  · have HC := Lib.hid (chkE_no hck)
    have HM : Hid (agr voters reached = 0) := Lib.hid (by unfold agr; rw [hck]; rfl)
    clear hck
    go_enter Try.func18, Try.ntmps18
    go_wp2_with (go_at_call 17; refine (Check_calls _ _ _ voters HU.out).mono ?_; rw [HC.out]; rintro e w' ⟨rfl, rfl⟩)
    go_ret
    exact ⟨int_ret HM.out.symm, Ext.refl _⟩
  · have HC := Lib.hid (chkE_yes hck)
    have HM : Hid (agr voters reached = (isort (rchs reached voters)).getD ((voters.length - 1) / 2) 0) := Lib.hid (by unfold agr; rw [hck]; rfl)
    have hp := chk_len hck
    have h7 := chk_le7 hck
    have HK := Lib.hid hck
    clear hck
    go_enter Try.func18, Try.ntmps18
    go_wp2_with (go_at_call 17; refine (Check_calls _ _ _ voters HU.out).mono ?_; rw [HC.out]; rintro e w' ⟨rfl, rfl⟩)
    go_loopw [5, 14] (fun u i wr => ∃ k : Nat, k ≤ voters.length ∧ i = .int .i64 k ∧ Hid (Ow kInt 3 wr w.heap.size (w.heap.size ≤ ·) u (rchs reached (voters.take k))) ∧ Hid (Ext w wr)) (fun _ i _ => voters.length - (intOf i).toNat)
    case atStart => exact ⟨0, Nat.zero_le _, rfl, Lib.hid (Ow.nil _ _ _ _ _), Lib.hid (Ext.refl _)⟩
    case round =>
      obtain ⟨k, hk, rfl, HO, HE⟩ := hrel
      by_cases hlt : k < voters.length
      · have hrow := HR.out.keep (w' := wr) fun b hb hl => HE.out.block b hl
        obtain ⟨ad, rfl, hcell, _⟩ := hrow.int hlt
        have hx := chk_mem HK.out (List.getElem_mem hlt)
        have HT := Lib.hid (rchs_take_succ reached voters k hlt)
        clear hrow
        generalize voters[k] = x at hcell hx HT
        obtain ⟨hx0, hx6⟩ := hx
        by_cases hin : x < (reached.length : Int)
        · have hin' : x.toNat < reached.length := by omega
          have hrow2 := HR2.out.keep (w' := wr) fun b hb hl => HE.out.block b hl
          obtain ⟨ad2, rfl, hcell2, hb2⟩ := hrow2.int hin'
          have HV := Lib.hid (rch_lt hx0 hin')
          clear hrow2
          generalize reached[x.toNat] = y at hcell2 hb2 HV
          have HZ : Hid (rch reached x = max y 0 ∧ I64 (max y 0)) := Lib.hid ⟨HV.out, by have h1 := hb2; unfold I64 at h1 ⊢; omega⟩
          have hxi : decide (x < (reached.length : Int)) = true := decide_eq_true hin
          go_wp2_with (at_builtin; refine wpList_append_Rs kInt rfl (.tmp 27) (.tmp 29) 22 3 rfl tInts w.heap.size _ _ _ [max y 0] (w.heap.size ≤ ·) _ rfl rfl (HO.out.alloc _) (Rs.one_int _ _ _ rfl _ HZ.out.2) (fun _ _ h => h) ?cn2 ?cb2 ?cz2 ?_)
          case cn2 => intro b hb; have := HE.out.le; (try simp at hb); omega
          case cb2 => rw [rchs_len, List.length_take]; (try simp); omega
          case cz2 => have := HE.out.le; (try simp); omega
          intro v' w2 ho hg _
          have HO2 := Lib.hid ho
          have HE2 := Lib.hid ((HE.out.alloc (.cells #[.int .i64 (max y 0)] 3)).grown hg HO.out.from_)
          clear ho hg
          go_wp2
          go_roundw
          case rel => exact ⟨k + 1, by omega, by go_num, by rw [HT.out, HZ.out.1]; exact HO2, HE2⟩
          case measure => simp [intOf]; omega
        · have HZ : Hid (rch reached x = 0 ∧ I64 0) := Lib.hid ⟨rch_ge hin, by omega, by omega⟩
          have hxi : decide (x < (reached.length : Int)) = false := decide_eq_false hin
          go_wp2_with (at_builtin; refine wpList_append_Rs kInt rfl (.tmp 27) (.tmp 29) 22 3 rfl tInts w.heap.size _ _ _ [0] (w.heap.size ≤ ·) _ rfl rfl (HO.out.alloc _) (Rs.one_int _ _ _ rfl _ HZ.out.2) (fun _ _ h => h) ?cn3 ?cb3 ?cz3 ?_)
          case cn3 => intro b hb; have := HE.out.le; (try simp at hb); omega
          case cb3 => rw [rchs_len, List.length_take]; (try simp); omega
          case cz3 => have := HE.out.le; (try simp); omega
          intro v' w2 ho hg _
          have HO2 := Lib.hid ho
          have HE2 := Lib.hid ((HE.out.alloc (.cells #[.int .i64 (0)] 3)).grown hg HO.out.from_)
          clear ho hg
          go_wp2
          go_roundw
          case rel => exact ⟨k + 1, by omega, by go_num, by rw [HT.out, HZ.out.1]; exact HO2, HE2⟩
          case measure => simp [intOf]; omega
      · obtain rfl : k = voters.length := by omega
        rw [List.take_length] at HO
        clear hlt
        have hxl : (rchs reached voters).length = voters.length := List.length_map _
        obtain ⟨g, cap, rfl, hbg, hgl, hcap, _⟩ := HO.out.form (by omega)
        rw [hxl] at HO hcap ⊢
        have hsl : (isort (rchs reached voters)).length = voters.length := by rw [isort_len, hxl]
        have HXL := Lib.hid hxl
        have HSL := Lib.hid hsl
        clear hxl hsl
        go_wp2_with fail
        refine (Sort_calls _ _ _ _ _ HO.out (by rw [HXL.out]; omega)).mono ?_
        rintro e w2 ⟨rfl, ho2, hu2⟩
        have hmid : (voters.length - 1) / 2 < voters.length := by omega
        rw [← HSL.out] at ho2
        have hcell := (ho2.scell ((voters.length - 1) / 2) (by rw [HSL.out]; omega)).1
        have HG : Hid ((isort (rchs reached voters)).getD ((voters.length - 1) / 2) 0 = (isort (rchs reached voters))[(voters.length - 1) / 2]'(by rw [HSL.out]; omega)) := Lib.hid (by rw [List.getD_eq_getElem?_getD, List.getElem?_eq_getElem (by rw [HSL.out]; omega), Option.getD_some])
        have HE2 := Lib.hid (hu2.ext HE.out (fun k hk => by simp [Value.ownBlock] at hk; omega))
        clear ho2 hu2
        generalize (isort (rchs reached voters))[(voters.length - 1) / 2]'(by rw [HSL.out]; omega) = z at hcell HG
        go_wp2
        go_ret
        exact ⟨int_ret (by rw [HM.out, HG.out]), HE2.out⟩
end Go.Proofs.Ythodhajjnjfbfaa
