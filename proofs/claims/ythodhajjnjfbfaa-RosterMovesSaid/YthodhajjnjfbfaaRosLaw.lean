/-
  What holds of voters: plain Lean, no program.
-/
import Derived.Test.YthodhajjnjfbfaaRosCheck
set_option linter.unusedVariables false
set_option linter.unusedSimpArgs false
namespace Go.Proofs.Ythodhajjnjfbfaa

/-! ### all voters that may be -/
def subs : List Int → List (List Int)
  | [] => [[]]
  | x :: l => subs l ++ (subs l).map (x :: ·)
def rng : Nat → List Int
  | 0 => []
  | n + 1 => (6 - (n : Int)) :: rng n
theorem nil_subs (l : List Int) : [] ∈ subs l := by
  induction l with
  | nil => simp [subs]
  | cons x l ih => simp [subs, ih]
theorem risF_subs (n : Nat) : ∀ l, risF (6 - (n : Int)) l = true → l ∈ subs (rng n) := by
  induction n with
  | zero =>
    intro l h
    cases l with
    | nil => exact nil_subs _
    | cons x l => simp only [risF_cons, Bool.and_eq_true, decide_eq_true_eq] at h; omega
  | succ n ih =>
    intro l h
    cases l with
    | nil => exact nil_subs _
    | cons x l =>
      simp only [risF_cons, Bool.and_eq_true, decide_eq_true_eq] at h
      simp only [rng, subs, List.mem_append, List.mem_map]
      by_cases hx : x = 6 - (n : Int)
      · exact .inr ⟨l, ih l (hx ▸ h.2), by rw [hx]⟩
      · refine .inl (ih _ ?_)
        simp only [risF_cons, Bool.and_eq_true, decide_eq_true_eq]
        exact ⟨⟨by omega, h.1.2⟩, h.2⟩
theorem chk_subs {l : List Int} (h : chk l = true) : l ∈ subs (rng 7) := risF_subs 7 l (by simp only [chk, Bool.and_eq_true] at h; exact h.1)
theorem chk_len {l : List Int} (h : chk l = true) : 0 < l.length := by
  cases l with
  | nil => cases h
  | cons x l => simp
theorem len_subs : ∀ l ∈ subs (rng 7), l.length ≤ 7 := by decide +kernel
theorem filt_subs : ∀ l ∈ subs (rng 7), l = (rng 7).filter (hasB l) := by decide +kernel
theorem chk_filt {l : List Int} (h : chk l = true) : l = (rng 7).filter (hasB l) := filt_subs l (chk_subs h)
theorem chk_le7 {l : List Int} (h : chk l = true) : l.length ≤ 7 := len_subs l (chk_subs h)
theorem mem_rng7 {n : Int} : n ∈ rng 7 ↔ 0 ≤ n ∧ n ≤ 6 := by
  simp only [rng, List.mem_cons, List.not_mem_nil, or_false]; omega
theorem chk_mem {l : List Int} (h : chk l = true) {n : Int} (hn : n ∈ l) : 0 ≤ n ∧ n ≤ 6 := by
  have := chk_filt h
  rw [this] at hn
  exact mem_rng7.1 (List.mem_filter.1 hn).1

/-! ### counting -/
def cnt (p : Int → Bool) (l : List Int) : Nat := (l.filter p).length
theorem cnt_nil (p : Int → Bool) : cnt p [] = 0 := rfl
theorem cnt_cons (p : Int → Bool) (x : Int) (l : List Int) : cnt p (x :: l) = cnt p l + (if p x = true then 1 else 0) := by
  unfold cnt; rw [List.filter_cons]; split <;> simp_all
theorem cnt_append (p : Int → Bool) (l m : List Int) : cnt p (l ++ m) = cnt p l + cnt p m := by simp [cnt]
theorem cnt_le (p : Int → Bool) (l : List Int) : cnt p l ≤ l.length := List.length_filter_le _ _
theorem cnt_chk {l : List Int} (h : chk l = true) (p : Int → Bool) : cnt p l = cnt (fun n => hasB l n && p n) (rng 7) := by
  have e := chk_filt h
  unfold cnt
  conv => lhs; rw [e]
  rw [List.filter_filter]
  congr 2
  funext n
  rw [Bool.and_comm]
theorem cnt_len {l : List Int} (h : chk l = true) : l.length = cnt (hasB l) (rng 7) := by
  have e := chk_filt h
  exact (congrArg List.length e)

/-- How many of l are not in s. -/
def lacksN (s l : List Int) : Nat := cnt (fun x => !hasB s x) l
/-- Are more than half of the voters among some? -/
def majB (voters some : List Int) : Bool := chk voters && decide (voters.length < 2 * cnt (hasB some) voters)
def mayE (old next : List Int) : Int :=
  if chk old = true ∧ chk next = true then (if lacksN old next + lacksN next old = 1 then 0 else 101) else 100
/-- How many of 0 to 6 are in one of both alone. -/
def unlike (old next : List Int) : Nat := cnt (fun n => hasB old n != hasB next n) (rng 7)

theorem unlike_eq {old next : List Int} (h1 : chk old = true) (h2 : chk next = true) : unlike old next = lacksN old next + lacksN next old := by
  unfold unlike lacksN
  rw [cnt_chk h2, cnt_chk h1]
  generalize rng 7 = l
  induction l with
  | nil => rfl
  | cons x l ih =>
    simp only [cnt_cons]
    cases hasB old x <;> cases hasB next x <;> simp <;> omega

/-! ### two majorities meet -/
theorem meets {old next some others : List Int} (hm : mayE old next = 0 ∨ (old = next ∧ chk old = true)) (h1 : majB old some = true) (h2 : majB next others = true) :
    ∃ n ∈ some, hasB others n = true ∧ (hasB old n = true ∨ hasB next n = true) := by
  simp only [majB, Bool.and_eq_true, decide_eq_true_eq] at h1 h2
  obtain ⟨c1, m1⟩ := h1
  obtain ⟨c2, m2⟩ := h2
  have hu : unlike old next ≤ 1 := by
    rcases hm with hm | ⟨rfl, _⟩
    · unfold mayE at hm
      rw [if_pos ⟨c1, c2⟩] at hm
      split at hm
      · rw [unlike_eq c1 c2]; omega
      · omega
    · have : unlike old old = 0 := by simp [unlike, cnt]
      omega
  rw [cnt_len c1, cnt_chk c1] at m1
  rw [cnt_len c2, cnt_chk c2] at m2
  unfold unlike at hu
  false_or_by_contra
  rename_i hne
  have hall : ∀ n, hasB some n = true → hasB others n = true → hasB old n = false ∧ hasB next n = false := by
    intro n ha hb
    constructor
    · cases hc : hasB old n
      · rfl
      · exact absurd ⟨n, by simpa [hasB] using ha, hb, .inl hc⟩ hne
    · cases hc : hasB next n
      · rfl
      · exact absurd ⟨n, by simpa [hasB] using ha, hb, .inr hc⟩ hne
  clear hne hm c1 c2
  have key : ∀ l : List Int, 2 * cnt (fun n => hasB old n && hasB some n) l + 2 * cnt (fun n => hasB next n && hasB others n) l ≤ cnt (hasB old) l + cnt (hasB next) l + cnt (fun n => hasB old n != hasB next n) l := by
    intro l
    induction l with
    | nil => simp [cnt_nil]
    | cons x l ih =>
      have hx := hall x
      simp only [cnt_cons]
      revert hx
      cases hasB old x <;> cases hasB next x <;> cases hasB some x <;> cases hasB others x <;> simp <;> omega
  have := key (rng 7)
  omega

/-! ### what is agreed -/
def insI (x : Int) : List Int → List Int
  | [] => [x]
  | y :: l => if x ≤ y then x :: y :: l else y :: insI x l
def isort : List Int → List Int
  | [] => []
  | x :: l => insI x (isort l)
theorem insI_perm (x : Int) (l : List Int) : (insI x l).Perm (x :: l) := by
  induction l with
  | nil => exact List.Perm.refl _
  | cons y l ih =>
    simp only [insI]
    split
    · exact List.Perm.refl _
    · exact (List.Perm.cons y ih).trans (List.Perm.swap x y l)
theorem isort_perm (l : List Int) : (isort l).Perm l := by
  induction l with
  | nil => exact List.Perm.refl _
  | cons x l ih => exact (insI_perm x _).trans (List.Perm.cons x ih)
abbrev Srt (l : List Int) : Prop := l.Pairwise (· ≤ ·)
theorem insI_srt (x : Int) (l : List Int) (h : Srt l) : Srt (insI x l) := by
  induction l with
  | nil => simp [insI, Srt]
  | cons y l ih =>
    simp only [insI]
    have hy := List.pairwise_cons.1 h
    split
    · rename_i hxy
      refine List.pairwise_cons.2 ⟨fun z hz => ?_, h⟩
      rcases List.mem_cons.1 hz with rfl | hz
      · exact hxy
      · have := hy.1 z hz; omega
    · rename_i hxy
      refine List.pairwise_cons.2 ⟨fun z hz => ?_, ih hy.2⟩
      have := (insI_perm x l).mem_iff.1 hz
      rcases List.mem_cons.1 this with rfl | hz
      · omega
      · exact hy.1 z hz
theorem isort_srt (l : List Int) : Srt (isort l) := by
  induction l with
  | nil => exact List.Pairwise.nil
  | cons x l ih => exact insI_srt x _ ih
theorem srt_unique : ∀ {l m : List Int}, Srt l → Srt m → l.Perm m → l = m := by
  intro l
  induction l with
  | nil => intro m _ _ hp; exact (List.nil_perm.1 hp).symm
  | cons x l ih =>
    intro m hl hm hp
    cases m with
    | nil => exact absurd hp.symm (by simp)
    | cons y m =>
      have h1 := List.pairwise_cons.1 hl
      have h2 := List.pairwise_cons.1 hm
      have hxy : x = y := by
        have hx : x ∈ y :: m := hp.mem_iff.1 (by simp)
        have hy : y ∈ x :: l := hp.mem_iff.2 (by simp)
        rcases List.mem_cons.1 hx with h | hx
        · exact h
        · rcases List.mem_cons.1 hy with h | hy
          · exact h.symm
          · have := h1.1 y hy; have := h2.1 x hx; omega
      subst hxy
      rw [ih h1.2 h2.2 (List.perm_cons x |>.1 hp)]
theorem srt_isort {l m : List Int} (hs : Srt m) (hp : m.Perm l) : m = isort l := srt_unique hs (isort_srt l) (hp.trans (isort_perm l).symm)
theorem isort_len (l : List Int) : (isort l).length = l.length := (isort_perm l).length_eq

/-- What node n has reached. -/
def rch (reached : List Int) (n : Int) : Int := if n < reached.length then max (reached.getD n.toNat 0) 0 else 0
def agr (voters reached : List Int) : Int :=
  if chk voters = true then (isort (voters.map (rch reached))).getD ((voters.length - 1) / 2) 0 else 0
theorem rch_nonneg (r : List Int) (n : Int) : 0 ≤ rch r n := by unfold rch; split <;> omega

/-- How many of a sorted list reach x, told by the one in the middle. -/
theorem srt_mid (s : List Int) (hs : Srt s) (hp : 0 < s.length) (x : Int) : s.length < 2 * cnt (fun y => decide (x ≤ y)) s ↔ x ≤ s.getD ((s.length - 1) / 2) 0 := by
  have hm : (s.length - 1) / 2 < s.length := by omega
  generalize hmm : (s.length - 1) / 2 = m at hm ⊢
  have e1 : s = s.take m ++ s[m] :: s.drop (m + 1) := by
    conv => lhs; rw [← List.take_append_drop m s]
    rw [List.drop_eq_getElem_cons hm]
  have hg : s.getD m 0 = s[m] := by simp [List.getD, hm]
  rw [hg]
  have hc : cnt (fun y => decide (x ≤ y)) s = cnt (fun y => decide (x ≤ y)) (s.take m) + (cnt (fun y => decide (x ≤ y)) (s.drop (m + 1)) + if x ≤ s[m] then 1 else 0) := by
    conv => lhs; rw [e1]
    rw [cnt_append, cnt_cons]
    simp
  have hlt : (s.take m).length = m := by rw [List.length_take]; omega
  have hld : (s.drop (m + 1)).length = s.length - (m + 1) := List.length_drop
  have b1 := cnt_le (fun y => decide (x ≤ y)) (s.take m)
  have b2 := cnt_le (fun y => decide (x ≤ y)) (s.drop (m + 1))
  have hs' := hs
  unfold Srt at hs'
  rw [e1] at hs'
  obtain ⟨_, hs2, hs3⟩ := List.pairwise_append.1 hs'
  have hs4 := (List.pairwise_cons.1 hs2).1
  constructor
  · intro h
    false_or_by_contra
    rename_i hx
    have h0 : cnt (fun y => decide (x ≤ y)) (s.take m) = 0 := by
      unfold cnt
      rw [List.length_eq_zero_iff, List.filter_eq_nil_iff]
      intro y hy
      have := hs3 y hy s[m] List.mem_cons_self
      simp; omega
    rw [hc, h0, if_neg hx] at h
    omega
  · intro hx
    have h0 : cnt (fun y => decide (x ≤ y)) (s.drop (m + 1)) = (s.drop (m + 1)).length := by
      unfold cnt
      rw [List.filter_eq_self.2]
      intro y hy
      have := hs4 y hy
      simp; omega
    rw [hc, h0, if_pos hx]
    omega
theorem cnt_perm {p : Int → Bool} {l m : List Int} (h : l.Perm m) : cnt p l = cnt p m := (h.filter p).length_eq
theorem cnt_map (p : Int → Bool) (f : Int → Int) (l : List Int) : cnt p (l.map f) = cnt (fun n => p (f n)) l := by
  unfold cnt; rw [List.filter_map, List.length_map]; rfl
/-- A majority has reached x just where x is not more than what is agreed. -/
theorem agr_iff {voters reached : List Int} (h : chk voters = true) (x : Int) : voters.length < 2 * cnt (fun n => decide (x ≤ rch reached n)) voters ↔ x ≤ agr voters reached := by
  unfold agr
  rw [if_pos h]
  have hp := isort_perm (voters.map (rch reached))
  have h1 := srt_mid (isort (voters.map (rch reached))) (isort_srt _) (by rw [isort_len, List.length_map]; exact chk_len h) x
  rw [isort_len, List.length_map, cnt_perm hp, cnt_map] at h1
  exact h1
theorem agr_mem {voters reached : List Int} (h : chk voters = true) : ∃ n ∈ voters, agr voters reached = rch reached n := by
  unfold agr
  rw [if_pos h]
  have hl := chk_len h
  have hlt : (voters.length - 1) / 2 < (isort (voters.map (rch reached))).length := by rw [isort_len, List.length_map]; omega
  have hm : (isort (voters.map (rch reached))).getD ((voters.length - 1) / 2) 0 ∈ voters.map (rch reached) := by
    rw [← (isort_perm _).mem_iff]
    rw [List.getD_eq_getElem?_getD, List.getElem?_eq_getElem hlt]
    exact List.getElem_mem _
  obtain ⟨n, hn, e⟩ := List.mem_map.1 hm
  exact ⟨n, hn, e.symm⟩
theorem agr_nonneg (voters reached : List Int) : 0 ≤ agr voters reached := by
  by_cases h : chk voters = true
  · obtain ⟨n, _, e⟩ := agr_mem (reached := reached) h
    rw [e]; exact rch_nonneg _ _
  · unfold agr; rw [if_neg h]; exact Int.le_refl _
/-- A majority among those numbers that reached x. -/
theorem maj_iff {voters reached some : List Int} (h : chk voters = true) (x : Int) (hx : 0 < x)
    (hs : ∀ n : Int, 0 ≤ n → n ≤ 6 → (hasB some n = true ↔ n < reached.length ∧ x ≤ reached.getD n.toNat 0)) : majB voters some = true ↔ x ≤ agr voters reached := by
  rw [← agr_iff h x]
  unfold majB
  rw [h, Bool.true_and, decide_eq_true_eq]
  have : cnt (hasB some) voters = cnt (fun n => decide (x ≤ rch reached n)) voters := by
    unfold cnt
    congr 1
    apply List.filter_congr
    intro n hn
    obtain ⟨n0, n6⟩ := chk_mem h hn
    have := hs n n0 n6
    rw [Bool.eq_iff_iff, this, decide_eq_true_eq]
    unfold rch
    split
    · rename_i hl; constructor
      · intro hh; omega
      · intro hh; exact ⟨hl, by omega⟩
    · rename_i hl; constructor
      · intro hh; exact absurd hh.1 hl
      · intro hh; omega
  rw [this]
/-- More reached, no less agreed. -/
theorem agr_mono {voters r r' : List Int} (h : chk voters = true) (hle : ∀ n, rch r n ≤ rch r' n) : agr voters r ≤ agr voters r' := by
  have h0 := (agr_iff (reached := r) h _).2 (Int.le_refl _)
  rw [← agr_iff h]
  generalize agr voters r = x at h0 ⊢
  have key : ∀ l : List Int, cnt (fun n => decide (x ≤ rch r n)) l ≤ cnt (fun n => decide (x ≤ rch r' n)) l := by
    intro l
    induction l with
    | nil => exact Nat.le_refl _
    | cons n l ih =>
      simp only [cnt_cons, decide_eq_true_eq]
      have := hle n
      by_cases h1 : x ≤ rch r n
      · have h2 : x ≤ rch r' n := by omega
        simp only [h1, h2, if_true]; omega
      · simp only [h1, if_false]; omega
  have := key voters
  omega

/-! ### one more, one less -/
def joinL (l : List Int) (n : Int) : List Int := if hasB l n = true then l else isort (l ++ [n])
def leaveL (l : List Int) (n : Int) : List Int := l.filter (fun x => decide (x ≠ n))
def backB (l : List Int) (n : Int) : Bool :=
  if hasB l n = true then
    let less := leaveL l n
    !hasB less n && eqL (joinL less n) l && (decide (less.length = 0) || decide (mayE l less = 0) && decide (mayE less l = 0))
  else
    let more := joinL l n
    hasB more n && decide (mayE l more = 0) && decide (mayE more l = 0) && eqL (leaveL more n) l
theorem back_subs : ∀ l ∈ subs (rng 7), chk l = true → ∀ n ∈ rng 7, backB l n = true := by decide +kernel
theorem back {l : List Int} {n : Int} (h : chk l = true) (h0 : 0 ≤ n) (h6 : n ≤ 6) : backB l n = true := back_subs l (chk_subs h) h n (mem_rng7.2 ⟨h0, h6⟩)
end Go.Proofs.Ythodhajjnjfbfaa
