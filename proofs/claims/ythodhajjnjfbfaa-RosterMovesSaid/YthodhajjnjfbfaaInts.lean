/-
  slices.Clone, Equal, Index, Contains at []int.
-/
import Derived.Test.YthodhajjnjfbfaaTypes
set_option linter.unusedVariables false
set_option linter.unusedSimpArgs false
namespace Go.Proofs.Ythodhajjnjfbfaa
open Go.RowKit

theorem bool_ret {a b : Bool} (h : a = b) : Ending.returned (.bool a) = .returned (.bool b) := by rw [h]
theorem int_ret {k : IntKind} {a b : Int} (h : a = b) : Ending.returned (.int k a) = .returned (.int k b) := by rw [h]

set_option maxHeartbeats 400000 in
theorem CloneI_calls (w : World) (S : Nat → Prop) (v : Value) (bs : List Int) (hr : Rs kInt w S v bs) (hsz : bs.length * 8 ≤ 140737488355328) :
    Calls Try.prog 19 #[v] w fun e w' => ∃ u, e = .returned u ∧ Ow kInt 3 w' w.heap.size (w.heap.size ≤ ·) u bs ∧ Ext w w' := by
  have HR := Lib.hid hr
  obtain ⟨A, c, rfl, hl, hc, hzl, hrow⟩ := hr
  cases A with
  | none =>
    have : bs = [] := by
      rcases Nat.eq_zero_or_pos bs.length with h0 | h0
      · exact List.eq_nil_of_length_eq_zero h0
      · obtain ⟨ad, h, _⟩ := hrow h0; cases h
    subst this
    clear hrow
    have hq := @Lib.run_eql_slice_nil Try.prog
    go_enter Try.func19, Try.ntmps19
    go_wp2
    go_ret
    exact ⟨_, rfl, Ow.nil _ _ _ _ _, Ext.refl _⟩
  | some ad =>
    clear hrow
    have hq := @Lib.run_eql_slice_nil Try.prog
    go_enter Try.func19, Try.ntmps19
    go_wp2_with (at_builtin; refine wpList_append_Rs kInt rfl (.tmp 5) (.tmp 6) 22 3 rfl tInts w.heap.size _ _ [] bs (w.heap.size ≤ ·) S rfl rfl ?co (HR.out.alloc _) (fun _ _ h => h) ?cn ?cb ?cz ?_)
    case co => exact Ow.slit (xs := []) (heap_alloc_new _ _) (Nat.le_refl _) (Nat.le_refl _) (by simp) (by simp)
    case cn => intro b hb; simp at hb; omega
    case cb => simpa using hsz
    case cz => simp
    intro v' w2 ho hg _
    have HO := Lib.hid ho
    have HE := Lib.hid (((Ext.refl w).alloc _).grown hg (fun k hk => by simp [Value.ownBlock] at hk; omega))
    clear ho hg
    go_wp2
    go_ret
    exact ⟨_, rfl, HO.out, HE.out⟩

theorem Row.ints_of {w : World} {S : Nat → Prop} {g off : Nat} {cs : Array Value} {t : TypeId} {fz : Nat × Nat} (hb : w.heap[g]? = some (.cells cs t fz)) (hS : S g) {xs : List Int} (hP : ∀ x ∈ xs, I64 x) (hx : ∀ j x, xs[j]? = some x → cs[off + j]? = some (.int .i64 x)) : Row kInt w S (some ⟨g, off, none⟩) xs :=
  Row.of_block hb hS fun j x hj => ⟨[.int .i64 x], ⟨rfl, hP x (List.mem_of_getElem? hj)⟩, fun i u hi => by
    cases i with
    | zero => simp at hi; subst hi; simpa [kInt, Kd.scalar] using hx j x hj
    | succ i => simp at hi⟩
theorem Rs.one_int (W : World) (g e : Nat) (hg : W.heap.size = g) (n : Int) (hn : I64 n) : Rs kInt (W.alloc (.cells #[.int .i64 n] e)) (fun _ => True) (.slice (some ⟨g, 0, none⟩) 1 1) [n] :=
  ⟨_, 1, rfl, by simp, by omega, by simp, Row.ints_of (heap_new W g hg _) trivial (by simpa using hn) fun j x hj => by
    match j, hj with
    | 0, hj => simp at hj; subst hj; rfl⟩
/-- A literal list of numbers. -/
theorem Rs.ints (W : World) (g e : Nat) (hg : W.heap.size = g) (xs : List Int) (hn : ∀ x ∈ xs, I64 x) (hl : xs.length ≤ 1000000) : Rs kInt (W.alloc (.cells (xs.map (Value.int .i64)).toArray e)) (fun _ => True) (.slice (some ⟨g, 0, none⟩) xs.length xs.length) xs :=
  ⟨_, xs.length, rfl, Nat.le_refl _, by omega, by omega, Row.ints_of (heap_new W g hg _) trivial hn fun j x hj => by simp [hj]⟩

/-- Where a number stands first. -/
def idxI : List Int → Int → Int
  | [], _ => -1
  | x :: l, n => if n = x then 0 else if idxI l n < 0 then -1 else idxI l n + 1
/-- Is it there? -/
def hasB (l : List Int) (n : Int) : Bool := decide (n ∈ l)
theorem idxI_bd (l : List Int) (n : Int) : -1 ≤ idxI l n ∧ idxI l n < l.length := by
  induction l with
  | nil => simp [idxI]
  | cons x l ih =>
    simp only [idxI, List.length_cons]
    split
    · omega
    · split <;> omega
theorem idxI_has (l : List Int) (n : Int) : (0 ≤ idxI l n) ↔ hasB l n = true := by
  induction l with
  | nil => simp [idxI, hasB]
  | cons x l ih =>
    simp only [hasB, decide_eq_true_eq, List.mem_cons] at ih ⊢
    simp only [idxI]
    split
    · rename_i h; simp [h]
    · rename_i h
      split
      · rename_i h2
        have : ¬ n ∈ l := by rw [← ih]; omega
        simp [h, this]
      · rename_i h2
        have : n ∈ l := by rw [← ih]; omega
        simp [this]; omega
/-- The search, begun behind k of them. -/
def idxFrom (l : List Int) (n : Int) (k : Nat) : Int := if idxI (l.drop k) n < 0 then -1 else idxI (l.drop k) n + k
theorem idxFrom_zero (l : List Int) (n : Int) : idxFrom l n 0 = idxI l n := by
  have := idxI_bd l n
  simp only [idxFrom, List.drop_zero]; split <;> omega
theorem idxFrom_hit (l : List Int) (k : Nat) (hk : k < l.length) : idxFrom l l[k] k = k := by
  have : l.drop k = l[k] :: l.drop (k + 1) := List.drop_eq_getElem_cons hk
  unfold idxFrom; rw [this]; simp [idxI]
theorem idxFrom_next (l : List Int) (n : Int) (k : Nat) (hk : k < l.length) (hn : n ≠ l[k]) : idxFrom l n k = idxFrom l n (k + 1) := by
  have e : l.drop k = l[k] :: l.drop (k + 1) := List.drop_eq_getElem_cons hk
  have := idxI_bd (l.drop (k + 1)) n
  unfold idxFrom; rw [e]; simp only [idxI, if_neg hn]
  by_cases h : idxI (l.drop (k + 1)) n < 0
  · simp [h]
  · simp [h]; omega
theorem idxFrom_end (l : List Int) (n : Int) : idxFrom l n l.length = -1 := by simp [idxFrom, idxI]

set_option maxHeartbeats 400000 in
theorem IndexI_calls (w : World) (S : Nat → Prop) (v : Value) (l : List Int) (n : Int) (hr : Rs kInt w S v l) :
    Calls Try.prog 38 #[v, .int .i64 n] w fun e w' => e = .returned (.int .i64 (idxI l n)) ∧ w = w' := by
  obtain ⟨A, c, rfl, hl, hc, hz, hrow⟩ := hr
  have HR := Lib.hid hrow
  clear hrow
  go_enter Try.func38, Try.ntmps38
  go_wp2
  go_loop [8] (fun i => ∃ k : Nat, k ≤ l.length ∧ i = .int .i64 k ∧ Hid (idxFrom l n k = idxI l n)) (fun i => l.length - (intOf i).toNat)
  case atStart => exact ⟨0, Nat.zero_le _, rfl, Lib.hid (idxFrom_zero l n)⟩
  case round =>
    obtain ⟨k, hk, rfl, HQ⟩ := hrel
    by_cases hlt : k < l.length
    · obtain ⟨ad, rfl, hcell, _⟩ := HR.out.int hlt
      by_cases he : n = l[k]
      · have hb : (n == l[k]) = true := beq_iff_eq.2 he
        have HE := Lib.hid he
        clear he
        go_wp2
        go_ret
        exact ⟨int_ret (by rw [← HQ.out]; have := HE.out; subst this; rw [idxFrom_hit l k (by assumption)]), rfl⟩
      · have hb : (n == l[k]) = false := beq_eq_false_iff_ne.2 he
        have HE := Lib.hid (idxFrom_next l n k hlt he)
        clear he
        go_wp2
        go_round
        case rel => exact ⟨k + 1, by omega, by go_num, Lib.hid (HE.out ▸ HQ.out)⟩
        case measure => simp [intOf]; omega
    · obtain rfl : k = l.length := by omega
      clear hlt
      go_wp2
      go_ret
      exact ⟨int_ret (by rw [← HQ.out, idxFrom_end]), rfl⟩
/-- Are two lists one? (A plain name.) -/
def eqL {α : Type} [DecidableEq α] (a b : List α) : Bool := decide (a = b)
theorem eqL_self {α : Type} [DecidableEq α] (a : List α) : eqL a a = true := by simp [eqL]
theorem eqL_iff {α : Type} [DecidableEq α] {a b : List α} : eqL a b = true ↔ a = b := by simp [eqL]

set_option maxHeartbeats 400000 in
theorem EqualI_calls (w : World) (S T : Nat → Prop) (v u : Value) (xs ys : List Int) (h1 : Rs kInt w S v xs) (h2 : Rs kInt w T u ys) :
    Calls Try.prog 21 #[v, u] w fun e w' => e = .returned (.bool (eqL xs ys)) ∧ ∃ n, w' = w.drewN n := by
  obtain ⟨A, c, rfl, hl, hc, hz, hrow⟩ := h1
  obtain ⟨A2, c2, rfl, hl2, hc2, hz2, hrow2⟩ := h2
  have HR := Lib.hid hrow
  have HR2 := Lib.hid hrow2
  clear hrow hrow2
  by_cases hle : xs.length = ys.length
  · have hb : ((xs.length : Int) != (ys.length : Int)) = false := by simp [hle]
    have HL := Lib.hid hle
    have hle1 : xs.length ≤ ys.length := by omega
    have hle2 : ys.length ≤ xs.length := by omega
    clear hle
    go_enter Try.func21, Try.ntmps21
    go_wp2
    go_loopw [13] (fun i wr => ∃ k m : Nat, k ≤ xs.length ∧ i = .int .i64 k ∧ Hid (wr = w.drewN m) ∧ Hid (xs.take k = ys.take k)) (fun i _ => xs.length - (intOf i).toNat)
    case atStart => exact ⟨0, 0, Nat.zero_le _, rfl, Lib.hid rfl, Lib.hid rfl⟩
    case round =>
      obtain ⟨k, m, hk, rfl, HW, HT⟩ := hrel
      have hw := HW.out
      subst hw
      by_cases hlt : k < xs.length
      · have hlt2 : k < ys.length := by omega
        obtain ⟨ad, rfl, hcell, _⟩ := HR.out.int hlt
        obtain ⟨ad2, rfl, hcell2, _⟩ := HR2.out.int hlt2
        have hs1 := List.take_succ_eq_append_getElem hlt
        have hs2 := List.take_succ_eq_append_getElem hlt2
        by_cases he : xs[k] = ys[k]
        · have HT' := Lib.hid (show xs.take (k + 1) = ys.take (k + 1) by rw [hs1, hs2, HT.out, he])
          have hq : (xs[k] != ys[k]) = false := by simp [he]
          clear hs1 hs2 he
          have hki : (k : Int) < (xs.length : Int) := by omega
          have hki2 : (k : Int) < (ys.length : Int) := by omega
          go_wp2
          go_quiet (fail)
          go_wp2
          go_roundw
          case rel => exact ⟨k + 1, _, by omega, by go_num, Lib.hid rfl, HT'⟩
          case measure => simp [intOf]; omega
        · have hne : eqL xs ys = false := by
            unfold eqL
            rw [decide_eq_false_iff_not]
            rintro rfl
            exact he rfl
          have HN := Lib.hid hne
          have hq : (xs[k] != ys[k]) = true := bne_iff_ne.2 he
          clear hs1 hs2 he hne
          have hki : (k : Int) < (xs.length : Int) := by omega
          have hki2 : (k : Int) < (ys.length : Int) := by omega
          go_wp2
          go_quiet (fail)
          go_wp2
          go_ret
          exact ⟨bool_ret HN.out.symm, _, World.drewN_drewN _ _ _⟩
      · obtain rfl : k = xs.length := by omega
        have hfin : eqL xs ys = true := by
          have h := HT.out
          rw [List.take_length, HL.out, List.take_length] at h
          exact eqL_iff.2 h
        have HF := Lib.hid hfin
        clear hlt hfin
        go_wp2
        go_ret
        exact ⟨bool_ret HF.out.symm, _, rfl⟩
  · have hb : ((xs.length : Int) != (ys.length : Int)) = true := bne_iff_ne.2 (by omega)
    have hne : eqL xs ys = false := by
      unfold eqL
      rw [decide_eq_false_iff_not]
      rintro rfl
      exact hle rfl
    have HN := Lib.hid hne
    clear hle hne
    go_enter Try.func21, Try.ntmps21
    go_wp2
    go_ret
    exact ⟨bool_ret HN.out.symm, 0, rfl⟩
end Go.Proofs.Ythodhajjnjfbfaa
