/-
  The reference's search for what is agreed.
-/
import Derived.Test.YthodhajjnjfbfaaRosAgr
set_option linter.unusedVariables false
set_option linter.unusedSimpArgs false
namespace Go.Proofs.Ythodhajjnjfbfaa
open Go.RowKit

/-- Has node n reached x? -/
def reaches (r : List Int) (x n : Int) : Bool := decide (n < r.length) && decide (x ≤ r.getD n.toNat 0)
/-- Of the first k nodes those that reached x. -/
def reachers (r : List Int) (x : Int) (k : Nat) : List Int := (upto k).filter (reaches r x)
theorem reachers_succ (r : List Int) (x : Int) (k : Nat) : reachers r x (k + 1) = if reaches r x (k : Int) = true then reachers r x k ++ [(k : Int)] else reachers r x k := by
  show (upto k ++ [(k : Int)]).filter _ = _
  rw [List.filter_append]
  cases h : reaches r x (k : Int) <;> simp [List.filter_cons, h, reachers]
theorem upto_len (k : Nat) : (upto k).length = k := by
  induction k with
  | zero => rfl
  | succ k ih => show (upto k ++ [(k : Int)]).length = _; simp [ih]
theorem mem_upto {n : Int} {k : Nat} : n ∈ upto k ↔ 0 ≤ n ∧ n < k := by
  induction k with
  | zero => simp only [upto, List.not_mem_nil, false_iff]; omega
  | succ k ih =>
    show n ∈ upto k ++ [(k : Int)] ↔ _
    simp only [List.mem_append, ih, List.mem_singleton]
    omega
theorem reachers_le (r : List Int) (x : Int) (k : Nat) : (reachers r x k).length ≤ k := by
  have := List.length_filter_le (reaches r x) (upto k)
  rw [upto_len] at this
  exact this
def stepB (voters r : List Int) (b x : Int) : Int := if decide (b < x) && majB voters (reachers r x 7) then x else b
def bestB (voters r l : List Int) : Int := l.foldl (stepB voters r) 0
theorem bestB_snoc (voters r l : List Int) (x : Int) : bestB voters r (l ++ [x]) = stepB voters r (bestB voters r l) x := by simp [bestB]
theorem bestB_take_succ (voters r l : List Int) (k : Nat) (hk : k < l.length) : bestB voters r (l.take (k + 1)) = stepB voters r (bestB voters r (l.take k)) l[k] := by
  rw [List.take_succ_eq_append_getElem hk, bestB_snoc]
theorem reachers_has {r : List Int} {x : Int} {n : Int} (h0 : 0 ≤ n) (h6 : n ≤ 6) : hasB (reachers r x 7) n = true ↔ n < r.length ∧ x ≤ r.getD n.toNat 0 := by
  unfold hasB reachers
  rw [decide_eq_true_eq, List.mem_filter, mem_upto]
  simp only [reaches, Bool.and_eq_true, decide_eq_true_eq]
  constructor
  · exact fun h => h.2
  · exact fun h => ⟨⟨h0, by omega⟩, h⟩
theorem snoc_ind {α : Type} {P : List α → Prop} (h0 : P []) (h1 : ∀ l x, P l → P (l ++ [x])) : ∀ l, P l := by
  intro l
  rw [← List.reverse_reverse l]
  induction l.reverse with
  | nil => exact h0
  | cons x l ih => rw [List.reverse_cons]; exact h1 _ _ ih
theorem best_inv (voters r : List Int) : ∀ l, 0 ≤ bestB voters r l ∧ bestB voters r l ≤ agr voters r ∧ (chk voters = true → ∀ x ∈ l, 0 < x → x ≤ agr voters r → x ≤ bestB voters r l) := by
  refine snoc_ind ⟨Int.le_refl _, agr_nonneg _ _, fun _ x hx => by cases hx⟩ ?_
  · rintro l x ⟨i1, i2, i3⟩
    rw [bestB_snoc]
    generalize bestB voters r l = b at i1 i2 i3
    unfold stepB
    cases hc : chk voters
    · have : majB voters (reachers r x 7) = false := by unfold majB; rw [hc]; rfl
      rw [this, Bool.and_false]
      exact ⟨i1, i2, fun h => by cases h⟩
    · by_cases hx : b < x
      · have hm := maj_iff (reached := r) (some := reachers r x 7) hc x (by omega) fun n h0 h6 => reachers_has h0 h6
        cases hmm : majB voters (reachers r x 7)
        · have hn : ¬ x ≤ agr voters r := fun h => by rw [hm.2 h] at hmm; cases hmm
          simp only [hx, decide_true, Bool.and_false, Bool.false_eq_true, if_false]
          refine ⟨i1, i2, fun _ y hy h1 h2 => ?_⟩
          rcases List.mem_append.1 hy with hy | hy
          · exact i3 hc y hy h1 h2
          · rw [List.mem_singleton.1 hy] at h2; exact absurd h2 hn
        · have hn := hm.1 hmm
          simp only [hx, decide_true, Bool.and_true, if_true]
          refine ⟨by omega, hn, fun _ y hy h1 h2 => ?_⟩
          rcases List.mem_append.1 hy with hy | hy
          · have := i3 hc y hy h1 h2; omega
          · rw [List.mem_singleton.1 hy]; exact Int.le_refl _
      · simp only [hx, decide_false, Bool.false_and, Bool.false_eq_true, if_false]
        refine ⟨i1, i2, fun _ y hy h1 h2 => ?_⟩
        rcases List.mem_append.1 hy with hy | hy
        · exact i3 hc y hy h1 h2
        · rw [List.mem_singleton.1 hy]; omega
theorem best_eq (voters r : List Int) : bestB voters r r = agr voters r := by
  obtain ⟨h1, h2, h3⟩ := best_inv voters r r
  by_cases hc : chk voters = true
  · obtain ⟨n, hn, he⟩ := agr_mem (reached := r) hc
    have hn06 := chk_mem hc hn
    by_cases hp : 0 < agr voters r
    · by_cases hl : n.toNat < r.length
      · rw [rch_lt hn06.1 hl] at he
        have hm : agr voters r ∈ r := by
          have : agr voters r = r[n.toNat] := by omega
          rw [this]; exact List.getElem_mem _
        have := h3 hc _ hm hp (Int.le_refl _)
        omega
      · rw [rch_ge (by omega)] at he; omega
    · omega
  · have : agr voters r = 0 := by unfold agr; rw [if_neg hc]
    omega

set_option maxHeartbeats 2000000 in
theorem RefAgreed_calls (w : World) (S T : Nat → Prop) (u v : Value) (voters reached : List Int) (hu : Rs kInt w S u voters) (hv : Rs kInt w T v reached) :
    Calls Try.prog 20 #[u, v] w fun e w' => e = .returned (.int .i64 (agr voters reached)) ∧ Ext w w' := by
  have HU := Lib.hid hu
  obtain ⟨A2, c2, rfl, hl2, hc2, hz2, hrow2⟩ := hv
  have HR2 := Lib.hid hrow2
  clear hrow2 hu
  go_enter Try.func20, Try.ntmps20
  go_wp2
  go_loopw [5, 12] (fun bb i wr => ∃ k : Nat, ∃ b : Int, k ≤ reached.length ∧ i = .int .i64 k ∧ bb = .int .i64 b ∧ Hid (b = bestB voters reached (reached.take k)) ∧ Hid (Ext w wr)) (fun _ i _ => reached.length - (intOf i).toNat)
  case atStart => exact ⟨0, 0, Nat.zero_le _, rfl, rfl, Lib.hid rfl, Lib.hid (Ext.refl _)⟩
  case round =>
    obtain ⟨k, b, hk, rfl, rfl, HB, HE⟩ := hrel
    by_cases hlt : k < reached.length
    · have hrow2 := HR2.out.keep (w' := wr) fun b hb hl => HE.out.block b hl
      obtain ⟨ad2, rfl, hcell2, _⟩ := hrow2.int hlt
      have HS := Lib.hid (bestB_take_succ voters reached reached k hlt)
      clear hrow2
      generalize reached[k] = x at hcell2 HS
      obtain ⟨wo, rfl⟩ : ∃ wo : World, wo = wr := ⟨_, rfl⟩
      go_wp2
      go_loopw [8, 16] (fun u i wr => ∃ j : Nat, j ≤ 7 ∧ i = .int .i64 j ∧ Hid (Ow kInt 3 wr w.heap.size (w.heap.size ≤ ·) u (reachers reached x j)) ∧ Hid (Ext w wr)) (fun _ i _ => 7 - (intOf i).toNat)
      case atStart => exact ⟨0, by omega, rfl, Lib.hid (Ow.nil _ _ _ _ _), HE⟩
      case round =>
        obtain ⟨j, hj, rfl, HO, HEr⟩ := hrel
        by_cases hjl : j < 7
        · have HQ := Lib.hid (reachers_succ reached x j)
          have HL := Lib.hid (reachers_le reached x j)
          by_cases hin : j < reached.length
          · have hrow3 := HR2.out.keep (w' := wr) fun b hb hl => HEr.out.block b hl
            obtain ⟨ad3, h3, hcell3, hb3⟩ := hrow3.int hin
            injection h3 with h3; subst h3
            have HG := Lib.hid (show reaches reached x (j : Int) = decide (x ≤ reached[j]) by
              unfold reaches
              rw [decide_eq_true (by omega), Bool.true_and, Int.toNat_natCast, List.getD_eq_getElem?_getD, List.getElem?_eq_getElem hin, Option.getD_some])
            clear hrow3
            generalize reached[j] = y at hcell3 hb3 HG
            by_cases hxy : x ≤ y
            · have HF := Lib.hid (show reachers reached x (j + 1) = reachers reached x j ++ [(j : Int)] by rw [HQ.out, HG.out, decide_eq_true hxy, if_pos rfl])
              have hd : decide (x ≤ y) = true := decide_eq_true hxy
              have hjr : decide (j < reached.length) = true := decide_eq_true hin
              have hji : I64 (j : Int) := ⟨by omega, by omega⟩
              have HJ := Lib.hid hji
              clear hxy hji
              go_wp2_with (at_builtin; refine wpList_append_Rs kInt rfl (.tmp 31) (.tmp 33) 22 3 rfl tInts w.heap.size _ _ _ [(j : Int)] (w.heap.size ≤ ·) _ rfl rfl (HO.out.alloc _) (Rs.one_int _ _ _ rfl _ HJ.out) (fun _ _ h => h) ?cn ?cb ?cz ?_)
              case cn => intro b hb; have := HEr.out.le; (try simp at hb); omega
              case cb => have := HL.out; (try simp); omega
              case cz => have := HEr.out.le; (try simp); omega
              intro v' w2 ho hg _
              have HO2 := Lib.hid ho
              have HE2 := Lib.hid ((HEr.out.alloc (.cells #[.int .i64 (j : Int)] 3)).grown hg HO.out.from_)
              clear ho hg
              go_wp2
              go_roundw
              case rel => exact ⟨j + 1, by omega, by go_num, by rw [HF.out]; exact HO2, HE2⟩
              case measure => simp [intOf]; omega
            · have HF := Lib.hid (show reachers reached x (j + 1) = reachers reached x j by rw [HQ.out, HG.out, decide_eq_false hxy]; rfl)
              have hd : decide (x ≤ y) = false := decide_eq_false hxy
              have hjr : decide (j < reached.length) = true := decide_eq_true hin
              clear hxy
              go_wp2
              go_roundw
              case rel => exact ⟨j + 1, by omega, by go_num, by rw [HF.out]; exact HO, HEr⟩
              case measure => simp [intOf]; omega
          · have HF := Lib.hid (show reachers reached x (j + 1) = reachers reached x j by
              rw [HQ.out]
              have : reaches reached x (j : Int) = false := by unfold reaches; rw [decide_eq_false (by omega)]; rfl
              rw [this]; rfl)
            have hjr : decide (j < reached.length) = false := decide_eq_false hin
            go_wp2
            go_roundw
            case rel => exact ⟨j + 1, by omega, by go_num, by rw [HF.out]; exact HO, HEr⟩
            case measure => simp [intOf]; omega
        · obtain rfl : j = 7 := by omega
          clear hjl
          by_cases hbx : b < x
          · have hd : decide (b < x) = true := decide_eq_true hbx
            cases hmm : majB voters (reachers reached x 7)
            · have HF := Lib.hid (show bestB voters reached (reached.take (k + 1)) = b by rw [HS.out, ← HB.out]; unfold stepB; rw [hmm, Bool.and_false]; rfl)
              have HM := Lib.hid hmm
              clear hbx hmm
              go_wp2_with (go_at_call 14; refine (RefMajority_calls _ _ _ _ _ voters (reachers reached x 7) (HU.out.ext HEr.out) HO.out.rs).mono ?_; rw [HM.out]; rintro e w' ⟨rfl, rfl⟩)
              go_roundw
              case rel => exact ⟨k + 1, b, by omega, by go_num, rfl, Lib.hid HF.out.symm, HEr⟩
              case measure => simp [intOf]; omega
            · have HF := Lib.hid (show bestB voters reached (reached.take (k + 1)) = x by rw [HS.out, ← HB.out]; unfold stepB; rw [hmm, decide_eq_true hbx]; rfl)
              have HM := Lib.hid hmm
              clear hbx hmm
              go_wp2_with (go_at_call 14; refine (RefMajority_calls _ _ _ _ _ voters (reachers reached x 7) (HU.out.ext HEr.out) HO.out.rs).mono ?_; rw [HM.out]; rintro e w' ⟨rfl, rfl⟩)
              go_roundw
              case rel => exact ⟨k + 1, x, by omega, by go_num, rfl, Lib.hid HF.out.symm, HEr⟩
              case measure => simp [intOf]; omega
          · have HF := Lib.hid (show bestB voters reached (reached.take (k + 1)) = b by rw [HS.out, ← HB.out]; unfold stepB; rw [decide_eq_false hbx]; rfl)
            have hd : decide (b < x) = false := decide_eq_false hbx
            clear hbx
            go_wp2
            go_roundw
            case rel => exact ⟨k + 1, b, by omega, by go_num, rfl, Lib.hid HF.out.symm, HEr⟩
            case measure => simp [intOf]; omega
    · obtain rfl : k = reached.length := by omega
      have HF := Lib.hid (show b = agr voters reached by rw [HB.out, List.take_length, best_eq])
      clear hlt
      go_wp2
      go_ret
      exact ⟨int_ret HF.out, HE.out⟩
end Go.Proofs.Ythodhajjnjfbfaa
