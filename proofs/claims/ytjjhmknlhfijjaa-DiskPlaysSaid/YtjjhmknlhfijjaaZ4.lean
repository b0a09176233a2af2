/-
  Texts of this claim, put together: DskPure, DskMay, SetRow, DskRdy, DskRange.
-/
import Derived.Test.YtjjhmknlhfijjaaZ3
import Derived.Test.YtjjhmknlhfijjaaZ2
import Derived.Laws.IdiomStrings
import Derived.Laws.Tables
import Derived.Laws.Rows
set_option linter.unusedVariables false
set_option linter.unusedSimpArgs false
namespace Go.Proofs.Ytjjhmknlhfijjaa
open Go.RowKit

/-! ### acts -/
theorem doA_rise {L : KL Nam} (h : riseK L) (k : ActK) (b : Nam) : riseK (doA L k b) := by
  cases k with
  | wr n a => exact rise_putK h _ _
  | tr n a => exact rise_putK h _ _
  | mv o t => exact rise_putK (rise_delK h _) _ _
  | dp n => exact rise_delK h _
theorem runA_rise : ∀ (l : List ActS) {L : KL Nam}, riseK L → riseK (runA L l)
  | [], _, h => h
  | x :: l, _, h => runA_rise l (doA_rise h x.k x.data)
theorem runA_append : ∀ (l m : List ActS) (L : KL Nam), runA L (l ++ m) = runA (runA L l) m
  | [], _, _ => rfl
  | x :: l, m, L => by
    show runA (doA L x.k x.data) (l ++ m) = runA (runA (doA L x.k x.data) l) m
    exact runA_append l m _
theorem runA_snoc (L : KL Nam) (l : List ActS) (x : ActS) : runA L (l ++ [x]) = doA (runA L l) x.k x.data := by
  rw [runA_append]; rfl
/-- An act fits. -/
def fit1 (L : KL Nam) (x : ActS) : Prop := fitA L x.k ∧ (∀ n ∈ namesA x.k, mayF n = true) ∧ (doA L x.k x.data).length ≤ 4096
theorem fits_append : ∀ (l m : List ActS) (L : KL Nam), fitsA L (l ++ m) ↔ fitsA L l ∧ fitsA (runA L l) m
  | [], m, L => by simp [fitsA, runA]
  | x :: l, m, L => by
    have ih := fits_append l m (doA L x.k x.data)
    show (_ ∧ fitsA (doA L x.k x.data) (l ++ m)) ↔ (_ ∧ fitsA (doA L x.k x.data) l) ∧ fitsA (runA (doA L x.k x.data) l) m
    rw [ih]
    exact and_assoc.symm
theorem fits_snoc (L : KL Nam) (l : List ActS) (x : ActS) : fitsA L (l ++ [x]) ↔ fitsA L l ∧ fit1 (runA L l) x := by
  rw [fits_append]
  simp [fitsA, fit1]
theorem insK_sum (n : Nam) (x : Nam) : ∀ L : KL Nam, sumK (insK n x L) = sumK L + x.length
  | [] => by simp [insK, sumK]
  | y :: l => by
    have ih := insK_sum n x l
    unfold sumK at ih ⊢
    unfold insK
    split
    · simp only [List.map_cons, List.sum_cons]; omega
    · simp only [List.map_cons, List.sum_cons]; omega
theorem delK_sum {L : KL Nam} (hr : riseK L) (n : Nam) : sumK (delK L n) + (bytesK L n).length = sumK L := by
  rcases hf : getK L n with _ | x
  · rw [delK_none hf]
    unfold bytesK
    rw [hf]
    rfl
  · have hb : bytesK L n = x := by unfold bytesK; rw [hf]; rfl
    rw [hb]
    clear hb
    induction L with
    | nil => cases hf
    | cons p l ih =>
      have hr' := hr
      unfold riseK at hr'
      rw [List.pairwise_cons] at hr'
      by_cases hp : p.1 = n
      · have h1 : p = (n, x) := rise_inj hr (List.mem_cons_self ..) (getK_mem hf) hp
        subst h1
        have h2 : delK ((n, x) :: l) n = l := by
          unfold delK
          rw [List.filter_cons_of_neg (by simp), List.filter_eq_self.2]
          intro q hq
          have := nlt_ne (hr'.1 q hq)
          simpa using this.symm
        rw [h2]
        unfold sumK
        simp only [List.map_cons, List.sum_cons]
        omega
      · have h' : getK l n = some x := by
          unfold getK at hf ⊢
          rw [List.find?_cons] at hf
          simp only [decide_eq_false hp] at hf
          exact hf
        have := ih hr'.2 h'
        have h2 : delK (p :: l) n = p :: delK l n := by
          unfold delK
          rw [List.filter_cons_of_pos (by simpa using hp)]
        rw [h2]
        unfold sumK at this ⊢
        simp only [List.map_cons, List.sum_cons]
        omega
theorem putK_sum {L : KL Nam} (hr : riseK L) (n x : Nam) : sumK (putK L n x) + (bytesK L n).length = sumK L + x.length := by
  have := delK_sum hr n
  unfold putK
  rw [insK_sum]
  omega
theorem delK_sum_le {L : KL Nam} (hr : riseK L) (n : Nam) : sumK (delK L n) ≤ sumK L := by
  have := delK_sum hr n
  omega
theorem bytesK_le {L : KL Nam} (n : Nam) : (bytesK L n).length ≤ sumK L := by
  unfold bytesK
  rcases hf : getK L n with _ | x
  · simp
  · have := sum_mem (getK_mem hf)
    simpa using this
theorem ins_len (old : Nam) (a : Nat) (b : Nam) (h : a ≤ old.length) : (ins old a b).length = max old.length (a + b.length) := by
  unfold ins
  simp
  omega
theorem doA_sum {L : KL Nam} (hr : riseK L) {k : ActK} (hf : fitA L k) (b : Nam) : sumK (doA L k b) ≤ sumK L + b.length := by
  cases k with
  | wr n a =>
    have h1 := putK_sum hr n (ins (bytesK L n) a b)
    have h2 := ins_len (bytesK L n) a b hf
    have h3 : a ≤ (bytesK L n).length := hf
    show sumK (putK L n (ins (bytesK L n) a b)) ≤ _
    omega
  | tr n a =>
    have h1 := putK_sum hr n ((bytesK L n).take a)
    have h2 : ((bytesK L n).take a).length ≤ (bytesK L n).length := by rw [List.length_take]; omega
    show sumK (putK L n ((bytesK L n).take a)) ≤ _
    omega
  | mv o t =>
    have h1 := putK_sum (rise_delK hr o) t (bytesK L o)
    have h2 := delK_sum hr o
    show sumK (putK (delK L o) t (bytesK L o)) ≤ _
    omega
  | dp n =>
    have := delK_sum_le hr n
    show sumK (delK L n) ≤ _
    omega
theorem runA_sum : ∀ (l : List ActS) {L : KL Nam}, riseK L → fitsA L l → sumK (runA L l) ≤ sumK L + costs l
  | [], L, _, _ => by simp [runA]
  | x :: l, L, hr, hf => by
    have h1 := runA_sum l (doA_rise hr x.k x.data) hf.2
    have h2 := doA_sum hr hf.1.1 x.data
    unfold runA
    unfold costs at h1 ⊢
    rw [List.map_cons, List.sum_cons]
    omega
theorem doA_names {L : KL Nam} (h : ∀ q ∈ L, mayF q.1 = true) {k : ActK} (hk : ∀ n ∈ namesA k, mayF n = true) (b : Nam) : ∀ q ∈ doA L k b, mayF q.1 = true := by
  intro q hq
  cases k with
  | wr n a =>
    rcases mem_putK.1 hq with rfl | ⟨h1, _⟩
    · exact hk n (by simp [namesA])
    · exact h q h1
  | tr n a =>
    rcases mem_putK.1 hq with rfl | ⟨h1, _⟩
    · exact hk n (by simp [namesA])
    · exact h q h1
  | mv o t =>
    rcases mem_putK.1 hq with rfl | ⟨h1, _⟩
    · exact hk t (by simp [namesA])
    · exact h q (mem_delK.1 h1).1
  | dp n => exact h q (mem_delK.1 hq).1
theorem runA_names : ∀ (l : List ActS) {L : KL Nam}, (∀ q ∈ L, mayF q.1 = true) → fitsA L l → ∀ q ∈ runA L l, mayF q.1 = true
  | [], L, h, _ => h
  | x :: l, L, h, hf => runA_names l (doA_names h hf.1.2.1 x.data) hf.2
theorem runA_len : ∀ (l : List ActS) {L : KL Nam}, L.length ≤ 4096 → fitsA L l → (runA L l).length ≤ 4096
  | [], L, h, _ => h
  | x :: l, L, h, hf => runA_len l hf.1.2.2 hf.2

/-! ### what is kept -/
def clampN (k : Int) (n : Nat) : Nat := (max 0 (min k (n : Int))).toNat
theorem clamp_le (k : Int) (n : Nat) : clampN k n ≤ n := by unfold clampN; omega
def tornB (tear : Int) (b : Nam) : Nam := b.take (b.length - clampN tear b.length)
def tornA (tear : Int) (x : ActS) : ActS := ⟨x.k, tornB tear x.data⟩
/-- The first n acts, the last of which is torn. -/
def keptA (l : List ActS) (n : Nat) (tear : Int) : List ActS := l.take (n - 1) ++ ((l.take n).drop (n - 1)).map (tornA tear)
theorem keptA_zero (l : List ActS) (tear : Int) : keptA l 0 tear = [] := by simp [keptA]
theorem keptA_succ (l : List ActS) (n : Nat) (tear : Int) (hn : n < l.length) : keptA l (n + 1) tear = l.take n ++ [tornA tear l[n]] := by
  unfold keptA
  rw [show n + 1 - 1 = n by omega, List.take_succ_eq_append_getElem hn, List.drop_left' (by rw [List.length_take]; omega)]
  rfl
theorem torn_len (t : Int) (b : Nam) : (tornB t b).length ≤ b.length := by
  unfold tornB
  rw [List.length_take]
  omega
theorem putK_len_any (L : KL Nam) (n x y : Nam) : (putK L n x).length = (putK L n y).length := by
  unfold putK
  rw [insK_len, insK_len]
theorem doA_len_any (L : KL Nam) (k : ActK) (b c : Nam) : (doA L k b).length = (doA L k c).length := by
  cases k with
  | wr n a => exact putK_len_any L n _ _
  | tr n a => rfl
  | mv o t => rfl
  | dp n => rfl
theorem fits_take (l : List ActS) (n : Nat) (L : KL Nam) (h : fitsA L l) : fitsA L (l.take n) := by
  have h1 := h
  rw [← List.take_append_drop n l, fits_append] at h1
  exact h1.1
theorem kept_fits {L : KL Nam} {l : List ActS} (h : fitsA L l) {n : Nat} (hn : n ≤ l.length) (tear : Int) : fitsA L (keptA l n tear) := by
  cases n with
  | zero => rw [keptA_zero]; trivial
  | succ n =>
    rw [keptA_succ l n tear (by omega), fits_snoc]
    have h1 := fits_take l (n + 1) L h
    rw [List.take_succ_eq_append_getElem (by omega), fits_snoc] at h1
    refine ⟨h1.1, h1.2.1, h1.2.2.1, ?_⟩
    rw [doA_len_any _ _ _ l[n].data]
    exact h1.2.2.2
theorem costs_append (l m : List ActS) : costs (l ++ m) = costs l + costs m := by simp [costs]
theorem costs_take (l : List ActS) (n : Nat) : costs (l.take n) ≤ costs l := by
  have := costs_append (l.take n) (l.drop n)
  rw [List.take_append_drop] at this
  omega
theorem kept_costs (l : List ActS) {n : Nat} (hn : n ≤ l.length) (tear : Int) : costs (keptA l n tear) ≤ costs l := by
  cases n with
  | zero => rw [keptA_zero]; simp [costs]
  | succ n =>
    rw [keptA_succ l n tear (by omega), costs_append]
    have h1 := costs_take l (n + 1)
    rw [List.take_succ_eq_append_getElem (by omega), costs_append] at h1
    have h2 : costs [tornA tear l[n]] ≤ costs [l[n]] := by
      have := torn_len tear l[n].data
      simpa [costs, tornA] using this
    omega

/-! ### a disk's calls -/
def DkS.len (s : DkS) (n : Nam) : Nat := (bytesK s.seen n).length
def rdyF (s : DkS) : Int := if s.off then 22 else 0
def findF (s : DkS) (n : Nam) : Int := if s.off then 22 else if mayF n = true then (if (getK s.seen n).isSome then 0 else 21) else 20
/-- Counted. -/
def hitS (s : DkS) : DkS := if s.left = 0 then s else { s with left := s.left - 1 }
def hitB (s : DkS) : Bool := decide (s.left = 1)
def fallS (s : DkS) (keep tear : Int) : DkS := ⟨true, 0, 0, 0, s.room, runA s.last (keptA s.acts (clampN keep s.acts.length) tear), []⟩
def putA (s : DkS) (x : ActS) : DkS := { s with acts := s.acts ++ [x] }
def pushS (s : DkS) (x : ActS) : Int × DkS := if hitB s = true then (22, fallS (putA s x) s.keep s.tear) else (0, hitS (putA s x))
def writeF (s : DkS) (n : Nam) (a : Int) (b : Nam) : Int :=
  if findF s n = 21 ∧ a = 0 then (if 4096 ≤ s.seen.length then 7 else if s.room - s.used < b.length then 7 else 0)
  else if findF s n = 0 then (if a < 0 ∨ (s.len n : Int) < a then 1 else if s.room - s.used < b.length then 7 else 0)
  else findF s n
def writeS (s : DkS) (n : Nam) (a : Int) (b : Nam) : Int × DkS := if writeF s n a b = 0 then pushS s ⟨.wr n a.toNat, b⟩ else (writeF s n a b, s)
def trimF (s : DkS) (n : Nam) (a : Int) : Int := if findF s n = 0 then (if a < 0 ∨ (s.len n : Int) < a then 1 else 0) else findF s n
def trimS (s : DkS) (n : Nam) (a : Int) : Int × DkS := if trimF s n a = 0 then pushS s ⟨.tr n a.toNat, []⟩ else (trimF s n a, s)
def moveF (s : DkS) (o t : Nam) : Int := if findF s o = 0 then (if mayF t = true then 0 else 20) else findF s o
def moveS (s : DkS) (o t : Nam) : Int × DkS := if moveF s o t = 0 then pushS s ⟨.mv o t, []⟩ else (moveF s o t, s)
def dropS (s : DkS) (n : Nam) : Int × DkS := if findF s n = 0 then pushS s ⟨.dp n, []⟩ else (findF s n, s)
def syncS (s : DkS) : Int × DkS := if s.off then (22, s) else if hitB s = true then (22, fallS s s.keep s.tear) else (0, { hitS s with last := s.seen, acts := [] })
def armS (s : DkS) (n k t : Int) : Int × DkS := if s.off then (22, s) else (0, { s with left := max n 0, keep := k, tear := t })
def crashS (s : DkS) (k t : Int) : Int × DkS := if s.off then (22, s) else (0, fallS s k t)
def startS (s : DkS) : DkS := { s with off := false }
def usedF (s : DkS) : Int := if s.off then 0 else s.used
def pendF (s : DkS) : Int := if s.off then 0 else s.acts.length
def listF (s : DkS) : List Nam := if s.off then [] else s.seen.map (·.1)
def readF (s : DkS) (n : Nam) : Nam := if findF s n = 0 then bytesK s.seen n else []

/-! ### what holds of it always -/
section
variable {s : DkS}
theorem DkOk.seen_rise (h : DkOk s) : riseK s.seen := runA_rise _ h.rise
theorem DkOk.seen_len (h : DkOk s) : s.seen.length ≤ 4096 := runA_len _ h.files h.fits
theorem DkOk.seen_names (h : DkOk s) : ∀ q ∈ s.seen, mayF q.1 = true := runA_names _ h.names h.fits
theorem DkOk.seen_sum (h : DkOk s) : sumK s.seen ≤ s.used := runA_sum _ h.rise h.fits
theorem DkOk.len_le (h : DkOk s) (n : Nam) : (s.len n : Int) ≤ s.room := by
  have h1 := h.seen_sum
  have h2 := bytesK_le (L := s.seen) n
  have h3 := h.room
  unfold DkS.len
  omega
theorem hit_ok (h : DkOk s) : DkOk (hitS s) := by
  unfold hitS
  split
  · exact h
  · have := h.left
    exact ⟨h.fits, h.room, h.most, h.rise, h.files, h.names, by simp only; omega, h.keep, h.tear⟩
theorem fall_ok (h : DkOk s) (k t : Int) : DkOk (fallS s k t) where
  fits := trivial
  room := by
    have h1 := runA_sum _ h.rise (kept_fits h.fits (clamp_le k s.acts.length) t)
    have h2 := kept_costs s.acts (clamp_le k s.acts.length) t
    have h3 := h.room
    unfold DkS.used at h3 ⊢
    unfold fallS
    simp only [costs, List.map_nil, List.sum_nil]
    unfold costs at h1 h2 h3
    omega
  most := h.most
  rise := runA_rise _ h.rise
  files := runA_len _ h.files (kept_fits h.fits (clamp_le k s.acts.length) t)
  names := runA_names _ h.names (kept_fits h.fits (clamp_le k s.acts.length) t)
  left := ⟨Int.le_refl _, by show (0 : Int) ≤ _; omega⟩
  keep := by constructor <;> (show _ ≤ _; simp [fallS])
  tear := by constructor <;> (show _ ≤ _; simp [fallS])
theorem put_ok (h : DkOk s) {x : ActS} (hf : fit1 s.seen x) (hr : (s.used : Int) + x.data.length ≤ s.room) : DkOk (putA s x) where
  fits := (fits_snoc _ _ _).2 ⟨h.fits, hf⟩
  room := by
    unfold DkS.used at hr ⊢
    unfold putA
    simp only [costs_append]
    have : costs [x] = x.data.length := by simp [costs]
    omega
  most := h.most
  rise := h.rise
  files := h.files
  names := h.names
  left := h.left
  keep := h.keep
  tear := h.tear
theorem push_ok (h : DkOk s) {x : ActS} (hf : fit1 s.seen x) (hr : (s.used : Int) + x.data.length ≤ s.room) : DkOk (pushS s x).2 := by
  unfold pushS
  split
  · exact fall_ok (put_ok h hf hr) _ _
  · exact hit_ok (put_ok h hf hr)
theorem find_iff {n : Nam} : findF s n = 0 ↔ s.off = false ∧ mayF n = true ∧ (getK s.seen n).isSome = true := by
  unfold findF
  rcases s.off <;> rcases mayF n <;> rcases (getK s.seen n).isSome <;> simp
theorem find_file {n : Nam} : findF s n = 21 ↔ s.off = false ∧ mayF n = true ∧ getK s.seen n = none := by
  unfold findF
  rcases h : getK s.seen n with _ | x <;> rcases s.off <;> rcases mayF n <;> simp
theorem putK_len_some {L : KL Nam} (hr : riseK L) {n : Nam} (h : (getK L n).isSome = true) (x : Nam) : (putK L n x).length = L.length := by
  rcases hf : getK L n with _ | y
  · rw [hf] at h; cases h
  · have := delK_len hr hf
    unfold putK
    rw [insK_len]
    exact this
theorem write_fits (h : DkOk s) {n : Nam} {a : Int} {b : Nam} (hw : writeF s n a b = 0) : fit1 s.seen ⟨.wr n a.toNat, b⟩ ∧ (s.used : Int) + b.length ≤ s.room ∧ s.off = false ∧ 0 ≤ a := by
  unfold writeF at hw
  split at hw
  · rename_i hc
    obtain ⟨h1, h2, h3⟩ := find_file.1 hc.1
    split at hw
    · cases hw
    · rename_i h4
      split at hw
      · cases hw
      · refine ⟨⟨?_, fun m hm => ?_, ?_⟩, by omega, h1, by omega⟩
        · show a.toNat ≤ _
          omega
        · simp only [namesA, List.mem_singleton] at hm
          subst hm; exact h2
        · have := putK_le s.seen n (ins (bytesK s.seen n) a.toNat b)
          show (putK s.seen n (ins (bytesK s.seen n) a.toNat b)).length ≤ 4096
          omega
  · split at hw
    · rename_i hc
      obtain ⟨h1, h2, h3⟩ := find_iff.1 hc
      split at hw
      · cases hw
      · rename_i h4
        split at hw
        · cases hw
        · refine ⟨⟨?_, fun m hm => ?_, ?_⟩, by omega, h1, by omega⟩
          · unfold DkS.len at h4
            show a.toNat ≤ _
            omega
          · simp only [namesA, List.mem_singleton] at hm
            subst hm; exact h2
          · show (putK s.seen n _).length ≤ 4096
            rw [putK_len_some h.seen_rise h3]
            exact h.seen_len
    · rename_i h5
      exact absurd hw h5
theorem trim_fits (h : DkOk s) {n : Nam} {a : Int} (hw : trimF s n a = 0) : fit1 s.seen ⟨.tr n a.toNat, []⟩ ∧ s.off = false ∧ 0 ≤ a := by
  unfold trimF at hw
  split at hw
  · rename_i hc
    obtain ⟨h1, h2, h3⟩ := find_iff.1 hc
    split at hw
    · cases hw
    · rename_i h4
      refine ⟨⟨?_, fun m hm => ?_, ?_⟩, h1, by omega⟩
      · unfold DkS.len at h4
        show a.toNat ≤ _
        omega
      · simp only [namesA, List.mem_singleton] at hm
        subst hm; exact h2
      · show (putK s.seen n _).length ≤ 4096
        rw [putK_len_some h.seen_rise h3]
        exact h.seen_len
  · rename_i h5
    exact absurd hw h5
theorem move_fits (h : DkOk s) {o t : Nam} (hw : moveF s o t = 0) : fit1 s.seen ⟨.mv o t, []⟩ ∧ s.off = false := by
  unfold moveF at hw
  split at hw
  · rename_i hc
    obtain ⟨h1, h2, h3⟩ := find_iff.1 hc
    split at hw
    · rename_i h4
      refine ⟨⟨h3, fun m hm => ?_, ?_⟩, h1⟩
      · simp only [namesA, List.mem_cons, List.not_mem_nil, or_false] at hm
        rcases hm with rfl | rfl
        · exact h2
        · exact h4
      · show (putK (delK s.seen o) t _).length ≤ 4096
        have h5 := putK_le (delK s.seen o) t (bytesK s.seen o)
        obtain ⟨x, hx⟩ := Option.isSome_iff_exists.1 h3
        have h6 := delK_len h.seen_rise hx
        have h7 := h.seen_len
        omega
    · cases hw
  · rename_i h5
    exact absurd hw h5
theorem drop_fits (h : DkOk s) {n : Nam} (hw : findF s n = 0) : fit1 s.seen ⟨.dp n, []⟩ ∧ s.off = false := by
  obtain ⟨h1, h2, h3⟩ := find_iff.1 hw
  refine ⟨⟨trivial, fun m hm => ?_, ?_⟩, h1⟩
  · simp only [namesA, List.mem_singleton] at hm
    subst hm; exact h2
  · have := delK_le s.seen n
    have := h.seen_len
    show (delK s.seen n).length ≤ 4096
    omega
theorem none_room (h : DkOk s) : (s.used : Int) + ([] : Nam).length ≤ s.room := by
  have := h.room
  simpa using this
theorem write_ok (h : DkOk s) (n : Nam) (a : Int) (b : Nam) : DkOk (writeS s n a b).2 := by
  unfold writeS
  split
  · rename_i hw
    have := write_fits h hw
    exact push_ok h this.1 this.2.1
  · exact h
theorem trim_ok (h : DkOk s) (n : Nam) (a : Int) : DkOk (trimS s n a).2 := by
  unfold trimS
  split
  · rename_i hw
    exact push_ok h (trim_fits h hw).1 (none_room h)
  · exact h
theorem move_ok (h : DkOk s) (o t : Nam) : DkOk (moveS s o t).2 := by
  unfold moveS
  split
  · rename_i hw
    exact push_ok h (move_fits h hw).1 (none_room h)
  · exact h
theorem drop_ok (h : DkOk s) (n : Nam) : DkOk (dropS s n).2 := by
  unfold dropS
  split
  · rename_i hw
    exact push_ok h (drop_fits h hw).1 (none_room h)
  · exact h
theorem last_ok (h : DkOk s) : DkOk { s with last := s.seen, acts := [] } where
  fits := trivial
  room := by
    have h1 := h.seen_sum
    have h2 := h.room
    show ((sumK s.seen + costs [] : Nat) : Int) ≤ s.room
    simp only [costs, List.map_nil, List.sum_nil]
    omega
  most := h.most
  rise := h.seen_rise
  files := h.seen_len
  names := h.seen_names
  left := h.left
  keep := h.keep
  tear := h.tear
theorem hit_seen (s : DkS) : (hitS s).seen = s.seen := by unfold hitS DkS.seen; split <;> rfl
theorem hit_off (s : DkS) : (hitS s).off = s.off := by unfold hitS; split <;> rfl
theorem hit_acts (s : DkS) : (hitS s).acts = s.acts := by unfold hitS; split <;> rfl
theorem hit_last (s : DkS) : (hitS s).last = s.last := by unfold hitS; split <;> rfl
theorem hit_room (s : DkS) : (hitS s).room = s.room := by unfold hitS; split <;> rfl
theorem hit_used (s : DkS) : (hitS s).used = s.used := by unfold hitS DkS.used; split <;> rfl
theorem sync_ok (h : DkOk s) : DkOk (syncS s).2 := by
  unfold syncS
  split
  · exact h
  · split
    · exact fall_ok h _ _
    · have := last_ok (hit_ok h)
      rw [hit_seen] at this
      exact this
theorem arm_ok (h : DkOk s) {n k t : Int} (hn : I64 n) (hk : I64 k) (ht : I64 t) : DkOk (armS s n k t).2 := by
  unfold armS
  split
  · exact h
  · exact ⟨h.fits, h.room, h.most, h.rise, h.files, h.names, by unfold I64 at hn; simp only; omega, hk, ht⟩
theorem crash_ok (h : DkOk s) (k t : Int) : DkOk (crashS s k t).2 := by
  unfold crashS
  split
  · exact h
  · exact fall_ok h _ _
theorem start_ok (h : DkOk s) : DkOk (startS s) := ⟨h.fits, h.room, h.most, h.rise, h.files, h.names, h.left, h.keep, h.tear⟩
end
end Go.Proofs.Ytjjhmknlhfijjaa
set_option linter.unusedVariables false
set_option linter.unusedSimpArgs false
namespace Go.Proofs.Ytjjhmknlhfijjaa
open Go.RowKit

theorem wq (x : Nat) : True := trivial
set_option maxRecDepth 100000 in
set_option maxHeartbeats 4000000 in
theorem may_calls (w : World) (g : Nat) (n : Nam) (hb : w.heap[g]? = some (.cells #[.string ⟨n.toArray⟩] 9 (0, 0))) (hn : n.length ≤ 9223372036854775807) :
    Calls Try.prog 55 #[.slice (some ⟨g, 0, none⟩) 1 1] w fun e w' => e = .returned (.bool (mayF n)) ∧ Ext w w' := by
  have hc : w.cell? ⟨g, 0, none⟩ = some (.string ⟨n.toArray⟩) := cell_blk hb 0
  have hlt := blk_lt hb
  have HC := Lib.hid hb
  have HN := Lib.hid hn
  clear hb hn
  go_enter Try.func55, Try.ntmps55
  go_wp2_with fail
  go_loopw [9] (fun i wr => (i = .int .i64 0 ∧ wr = w) ∨ (i = .int .i64 1 ∧ Hid (Ext w wr) ∧ Hid (mayF n = true))) (fun i _ => 1 - (intOf i).toNat)
  case atStart => exact .inl ⟨rfl, rfl⟩
  case round =>
    rcases hrel with ⟨rfl, rfl⟩ | ⟨rfl, HX, HM⟩
    · by_cases h1 : 1 ≤ n.length ∧ n.length ≤ 32
      · obtain ⟨h1, h2⟩ := h1
        have hcv := run_bytes_of_string wr 9 23 5 (⟨n.toArray⟩ : ByteArray) Try.underlying9 Try.underlying23 Try.underlying5
        obtain ⟨w1, hw1⟩ : ∃ w1, w1 = (wr.drew.alloc (.cells (bytesRow (⟨n.toArray⟩ : ByteArray) (grownCap wr (⟨n.toArray⟩ : ByteArray).size 0 5)) 5 ((bytesRow (⟨n.toArray⟩ : ByteArray) (grownCap wr (⟨n.toArray⟩ : ByteArray).size 0 5)).size, (bytesRow (⟨n.toArray⟩ : ByteArray) (grownCap wr (⟨n.toArray⟩ : ByteArray).size 0 5)).size + 1))) := ⟨_, rfl⟩
        rw [← hw1] at hcv
        obtain ⟨cp, hcp⟩ : ∃ cp, cp = grownCap wr (⟨n.toArray⟩ : ByteArray).size 0 5 := ⟨_, rfl⟩
        rw [← hcp] at hcv
        obtain ⟨g1, hg1⟩ : ∃ g1, g1 = wr.heap.size := ⟨_, rfl⟩
        rw [← hg1] at hcv
        have hsz : (⟨n.toArray⟩ : ByteArray).size = n.length := rfl
        rw [hsz] at hcv
        have HX1 := Lib.hid (show Ext wr w1 by rw [hw1]; exact ((Ext.refl wr).drew).alloc _)
        have HB1 := Lib.hid (show ∃ row fz, w1.heap[g1]? = some (.cells row 5 fz) ∧ ∀ i (hi : i < n.length), row[i]? = some (.int .u8 (n[i].toNat : Int)) from ⟨_, _, by rw [hw1]; exact heap_new wr.drew g1 hg1.symm _, fun i hi => by
          have := bytesRow_at (⟨n.toArray⟩ : ByteArray) (grownCap wr (⟨n.toArray⟩ : ByteArray).size 0 5) i (by simpa using hi)
          simpa using this⟩)
        clear hw1 hcp hg1 hsz
        go_wp2_with fail
        go_loopw [24] (fun i wr2 => ∃ k : Nat, k ≤ n.length ∧ i = .int .i64 k ∧ Hid (Ext w1 wr2) ∧ Hid ((n.take k).all chrF = true)) (fun i _ => n.length - (intOf i).toNat)
        case atStart => exact ⟨0, Nat.zero_le _, rfl, Lib.hid (Ext.refl _), Lib.hid rfl⟩
        case round =>
          obtain ⟨k, hk, rfl, HX2, HA⟩ := hrel
          by_cases hkn : k < n.length
          · obtain ⟨row, fz, hb1, hrow⟩ := HB1.out
            have hch := (cell_blk (blk_ext hb1 HX2.out) k).trans (hrow k hkn)
            have hx0 : n[k].toNat < 256 := n[k].toNat_lt
            have HCH := Lib.hid (show chrF n[k] = ((decide (97 ≤ n[k].toNat) && decide (n[k].toNat ≤ 122)) || (decide (48 ≤ n[k].toNat) && decide (n[k].toNat ≤ 57)) || decide (n[k].toNat = 46)) from rfl)
            by_cases hgood : chrF n[k] = true
            · have HA2 := Lib.hid (show (n.take (k + 1)).all chrF = true by
                rw [List.take_succ_eq_append_getElem hkn, List.all_append, HA.out]
                simp [hgood])
              rw [HCH.out] at hgood
              obtain ⟨x, hx⟩ : ∃ x, x = n[k].toNat := ⟨_, rfl⟩
              rw [← hx] at hch hgood hx0
              clear hb1 hrow HCH hx
              simp only [Bool.or_eq_true, Bool.and_eq_true, decide_eq_true_eq] at hgood
              rcases hgood with (⟨h3, h4⟩ | ⟨h3, h4⟩) | h3
              · go_wp2_with fail
                all_goals (try omega)
                go_roundw
                case rel => exact ⟨k + 1, by omega, by simp, HX2, HA2⟩
                case measure => simp [intOf]; omega
              · go_wp2_with fail
                all_goals (try omega)
                go_roundw
                case rel => exact ⟨k + 1, by omega, by simp, HX2, HA2⟩
                case measure => simp [intOf]; omega
              · go_wp2_with fail
                all_goals (try omega)
                go_roundw
                case rel => exact ⟨k + 1, by omega, by simp, HX2, HA2⟩
                case measure => simp [intOf]; omega
            · have HF := Lib.hid (show mayF n = false by
                unfold mayF
                have : n.all chrF = false := by
                  rw [List.all_eq_false]
                  exact ⟨n[k], List.getElem_mem hkn, hgood⟩
                rw [this, Bool.and_false])
              rw [HCH.out] at hgood
              obtain ⟨x, hx⟩ : ∃ x, x = n[k].toNat := ⟨_, rfl⟩
              rw [← hx] at hch hgood hx0
              clear hb1 hrow HCH hx
              simp only [Bool.or_eq_true, Bool.and_eq_true, decide_eq_true_eq, not_or, not_and] at hgood
              obtain ⟨⟨h3, h4⟩, h5⟩ := hgood
              have h6 : (x < 48 ∧ x ≠ 46) ∨ (57 < x ∧ x < 97) ∨ 122 < x := by omega
              clear h3 h4 h5
              have hne : ((x : Int) != 46) = true := by rw [bne_iff_ne]; omega
              rcases h6 with ⟨h3, h4⟩ | ⟨h3, h4⟩ | h3
              · go_wp2_with fail
                all_goals (try omega)
                go_ret
                rw [HF.out]
                exact ⟨rfl, HX1.out.trans HX2.out⟩
              · go_wp2_with fail
                all_goals (try omega)
                go_ret
                rw [HF.out]
                exact ⟨rfl, HX1.out.trans HX2.out⟩
              · go_wp2_with fail
                all_goals (try omega)
                go_ret
                rw [HF.out]
                exact ⟨rfl, HX1.out.trans HX2.out⟩
          · have hkn2 : ((k : Int) < (n.length : Int)) = False := by simp; omega
            have HM2 := Lib.hid (show mayF n = true by
              have h3 := HA.out
              rw [List.take_of_length_le (by omega)] at h3
              unfold mayF
              simp [h1, h2, h3])
            have HX3 := Lib.hid (HX1.out.trans HX2.out)
            go_wp2_with fail
            go_roundw
            case rel => exact .inr ⟨rfl, HX3, HM2⟩
            case measure => simp [intOf]
      · have HF := Lib.hid (show mayF n = false by unfold mayF; simp; omega)
        rcases Nat.lt_or_ge n.length 1 with h2 | h2
        · go_wp2_with fail
          all_goals (try omega)
          go_ret
          rw [HF.out]
          exact ⟨rfl, Ext.refl _⟩
        · go_wp2_with fail
          all_goals (try omega)
          go_ret
          rw [HF.out]
          exact ⟨rfl, Ext.refl _⟩
    · go_wp2_with fail
      go_ret
      rw [HM.out]
      exact ⟨rfl, HX.out⟩
end Go.Proofs.Ytjjhmknlhfijjaa
set_option linter.unusedVariables false
set_option linter.unusedSimpArgs false
namespace Go.Proofs.Ytjjhmknlhfijjaa
open Go.RowKit

theorem setRow_upd (W : World) (g : Nat) (cs : Array Value) : Upd (fun b => b = g) W (W.setRow g cs) :=
  ⟨rfl, rfl, rfl, by simp, fun k hk hn => by
    unfold World.setRow
    simp only [Array.getElem?_modify]
    rw [if_neg (fun e => hn (by show k = g; omega))]⟩
theorem Upd.row {S : Nat → Prop} {a b : World} (h : Upd S a b) {g : Nat} (hg : S g ∨ a.heap.size ≤ g) (cs : Array Value) : Upd S a (b.setRow g cs) :=
  ⟨h.os, h.tape, h.output, by simpa using h.size, fun k hk hn => by
    have hne : k ≠ g := fun e => by rcases hg with hg | hg; exact hn (e ▸ hg); omega
    exact ((setRow_upd b g cs).block k (Nat.lt_of_lt_of_le hk h.size) hne).trans (h.block k hk hn)⟩
end Go.Proofs.Ytjjhmknlhfijjaa
set_option linter.unusedVariables false
set_option linter.unusedSimpArgs false
namespace Go.Proofs.Ytjjhmknlhfijjaa
open Go.RowKit

theorem eqlMap (w : World) (r : Option Nat) : (binOp .eql 53 (.map r) (.map none)).run Try.prog w = .ok (.bool r.isNone) w := run_eql_map_nil w _ _ _ r Try.underlying53
set_option maxHeartbeats 400000 in
theorem ready_calls (w : World) (p b1 b2 : Nat) (M D : Nat → Prop) (s : DkS) (av : Value) (h : DkY w p M D s b1 b2 av) :
    Calls Try.prog 45 #[ptr p] w fun e w' => e = .returned (.int .i64 (rdyF s)) ∧ w = w' := by
  have hb := h.blk
  have hc0 : w.cell? ⟨p, 0, none⟩ = some (.bool s.off) := cell_blk hb 0
  have hc5 : w.cell? ⟨p, 5, none⟩ = some (.map (some b1)) := cell_blk hb 5
  have hlt := blk_lt hb
  clear hb h
  unfold ptr
  have qE := eqlMap
  unfold rdyF
  rcases ho : s.off with _ | _
  · rw [ho] at hc0
    go_enter Try.func45, Try.ntmps45
    go_wp2_with fail
    go_ret
    exact ⟨rfl, rfl⟩
  · rw [ho] at hc0
    go_enter Try.func45, Try.ntmps45
    go_wp2_with fail
    go_ret
    exact ⟨rfl, rfl⟩
set_option maxHeartbeats 400000 in
theorem struck_calls (w : World) (p b1 b2 : Nat) (M D : Nat → Prop) (s : DkS) (av : Value) (h : DkY w p M D s b1 b2 av) :
    Calls Try.prog 46 #[ptr p] w fun e w' => e = .returned (.bool (hitB s)) ∧ DkY w' p M D (hitS s) b1 b2 av ∧ Upd (fun k => k = p) w w' := by
  have HH := Lib.hid h
  have hb := h.blk
  have hc1 : w.cell? ⟨p, 1, none⟩ = some (.int .i64 s.left) := cell_blk hb 1
  have hfz : w.frozen? ⟨p, 1, none⟩ = false := frozen_blk hb 1
  have hlt := blk_lt hb
  have hle := h.ok.left
  have HB := Lib.hid hb
  clear hb h
  unfold ptr
  by_cases h0 : s.left = 0
  · have HF := Lib.hid (show hitB s = false ∧ hitS s = s by constructor <;> simp [hitB, hitS, h0])
    rw [h0] at hc1
    go_enter Try.func46, Try.ntmps46
    go_wp2_with fail
    go_ret
    rw [HF.out.1, HF.out.2]
    exact ⟨rfl, HH.out, Upd.refl _ _⟩
  · have he0 : (s.left == 0) = false := beq_eq_false_iff_ne.2 h0
    have HF := Lib.hid (show hitB s = (s.left - 1 == 0) ∧ hitS s = { s with left := s.left - 1 } by
      refine ⟨?_, by unfold hitS; rw [if_neg h0]⟩
      unfold hitB
      rw [Bool.eq_iff_iff]
      simp only [decide_eq_true_eq, beq_iff_eq]
      omega)
    have HW := Lib.hid (show DkY (w.setCell ⟨p, 1, none⟩ (.int .i64 (s.left - 1))) p M D (hitS s) b1 b2 av from by
      refine HH.out.turn ((Upd.refl (fun k => k = p) w).set (g := p) (.inl rfl) _) (hit_last s) (hit_acts s) ?_ (hit_ok HH.out.ok)
      have := heap_setCell_same w p 1 _ _ (.int .i64 (s.left - 1)) HB.out
      rw [HF.out.2]
      exact this)
    clear h0
    have hc2 : (w.setCell ⟨p, 1, none⟩ (.int .i64 (s.left - 1))).cell? ⟨p, 1, none⟩ = some (.int .i64 (s.left - 1)) := by
      have := heap_setCell_same w p 1 _ _ (.int .i64 (s.left - 1)) HB.out
      exact cell_blk this 1
    go_enter Try.func46, Try.ntmps46
    go_wp2_with fail
    go_ret
    rw [HF.out.1]
    exact ⟨rfl, HW.out, (Upd.refl (fun k => k = p) w).set (g := p) (.inl rfl) _⟩
set_option maxHeartbeats 1000000 in
theorem find_calls (w : World) (p b1 b2 : Nat) (M D : Nat → Prop) (s : DkS) (av : Value) (h : DkY w p M D s b1 b2 av) (n : Nam) (hn : n.length ≤ 9223372036854775807) :
    Calls Try.prog 49 #[ptr p, .string ⟨n.toArray⟩] w fun e w' => e = .returned (.int .i64 (findF s n)) ∧ Ext w w' := by
  have HH := Lib.hid h
  have HN := Lib.hid hn
  have hb := h.blk
  have hc5 : w.cell? ⟨p, 5, none⟩ = some (.map (some b1)) := cell_blk hb 5
  have hlt := blk_lt hb
  clear hb h hn
  unfold ptr
  have hq := @Lib.run_eql_slice_nil Try.prog
  rcases ho : s.off with _ | _
  · have HR := Lib.hid (show rdyF s = 0 by unfold rdyF; simp [ho])
    by_cases hm : mayF n = true
    · have HM := Lib.hid hm
      have HT := Lib.hid (show findF s n = if (getK s.seen n).isSome = true then 0 else 21 by unfold findF; simp [ho, hm])
      clear ho hm
      go_enter Try.func49, Try.ntmps49
      go_wp2_with fail
      refine (ready_calls w p b1 b2 M D s av HH.out).mono ?_
      rw [HR.out]
      rintro e w' ⟨rfl, rfl⟩
      go_wp2_with fail
      refine (may_calls _ _ n (heap_alloc_new _ _) HN.out).mono ?_
      rw [HM.out]
      rintro e w2 ⟨rfl, hx⟩
      have HX := Lib.hid (((Ext.refl w).alloc _).trans hx)
      clear hx hc5
      have HY := Lib.hid (HH.out.ext HX.out)
      have hc5 : w2.cell? ⟨p, 5, none⟩ = some (.map (some b1)) := cell_blk HY.out.blk 5
      obtain ⟨A, m, c, hlk, -, hs⟩ := HY.out.sees.at_ HN.out
      have hlk2 := hlk w2 rfl
      rw [← hs] at HT
      clear hlk hs
      cases A with
      | none =>
        go_wp2_with fail
        go_ret
        rw [HT.out]
        exact ⟨rfl, HX.out⟩
      | some ad =>
        go_wp2_with fail
        go_ret
        rw [HT.out]
        exact ⟨rfl, HX.out⟩
    · have HM := Lib.hid (show mayF n = false by simpa using hm)
      have HT := Lib.hid (show findF s n = 20 by unfold findF; simp [ho, hm])
      clear ho hm
      go_enter Try.func49, Try.ntmps49
      go_wp2_with fail
      refine (ready_calls w p b1 b2 M D s av HH.out).mono ?_
      rw [HR.out]
      rintro e w' ⟨rfl, rfl⟩
      go_wp2_with fail
      refine (may_calls _ _ n (heap_alloc_new _ _) HN.out).mono ?_
      rw [HM.out]
      rintro e w2 ⟨rfl, hx⟩
      have HX := Lib.hid (((Ext.refl w).alloc _).trans hx)
      clear hx hc5
      go_wp2_with fail
      go_ret
      rw [HT.out]
      exact ⟨rfl, HX.out⟩
  · have HR := Lib.hid (show rdyF s = 22 by unfold rdyF; simp [ho])
    have HT := Lib.hid (show findF s n = 22 by unfold findF; simp [ho])
    clear ho
    go_enter Try.func49, Try.ntmps49
    go_wp2_with fail
    refine (ready_calls w p b1 b2 M D s av HH.out).mono ?_
    rw [HR.out]
    rintro e w' ⟨rfl, rfl⟩
    go_wp2_with fail
    go_ret
    rw [HT.out]
    exact ⟨rfl, Ext.refl _⟩
end Go.Proofs.Ytjjhmknlhfijjaa
set_option linter.unusedVariables false
set_option linter.unusedSimpArgs false
namespace Go.Proofs.Ytjjhmknlhfijjaa
open Go.RowKit

set_option maxRecDepth 100000 in
set_option maxHeartbeats 1000000 in
theorem total_calls (w : World) (b : Nat) (D : Nat → Prop) (L : KL Nam) (h : TabF w b D L) (hsum : sumK L ≤ 4611686018427387904) :
    Calls Try.prog 60 #[.map (some b)] w fun e w' => e = .returned (.int .i64 (sumK L)) ∧ Ext w w' := by
  obtain ⟨C, hCL, hm, hr, hc⟩ := h
  have hrL : riseK L := by rw [← hCL]; exact (mapK_rise _).2 hr
  have HM := Lib.hid hm
  have HC := Lib.hid hCL
  have HRC := Lib.hid hr
  have HR0 := Lib.hid hrL
  have HS := Lib.hid hsum
  have HRS := Lib.hid hc
  clear hm hCL hr hrL hsum hc
  obtain ⟨H, hH⟩ : ∃ H, H = mapK Prod.fst C := ⟨_, rfl⟩
  have HH := Lib.hid hH
  rw [← hH] at HM
  clear hH
  go_enter Try.func60, Try.ntmps60
  go_wp2_with (at_range; refine wpList_range_own _ rfl (.tmp 6) 53 rfl 9 23 keyedS Try.underlying53 hdR b H.length (encH H) rfl HM.out ?_)
  intro w1 hrg hg hsz
  have HRG := Lib.hid hrg
  have HG := Lib.hid hg
  clear hrg hg hsz
  go_wp2_with fail
  go_loopw [3] (fun u wr => ∃ (left : Lit → Bool) (cnt : Nat), u = .int .i64 (sumK (doneK L left)) ∧ Hid (wr.ranges Try.prog 9 hdR b w.heap.size H.length (encH H) left cnt) ∧ Hid (Ext w wr)) (fun _ wr => wr.rangeLeft b w.heap.size)
  case atStart =>
    refine ⟨Maps.has (encH H), Maps.size (encH H), ?_, HRG, Lib.hid ?_⟩
    · rw [doneK_none]
      · rfl
      · intro p hp
        rw [HH.out, has_encH, mapK_get]
        rw [← HC.out] at hp
        obtain ⟨q, hq, rfl⟩ := List.mem_map.1 hp
        rw [(getK_iff HRC.out).2 hq]
        rfl
    · exact ((Ext.refl w).upd (fun _ => False)).grown HG.out (fun k hk => by cases hk) |>.ext (Ext.refl w) (fun _ h => h.elim)
  case round =>
    clear HRG HG
    obtain ⟨left, cnt, rfl, HR, HU⟩ := hrel
    go_wp2_with (at_next; refine wpList_next_ranges _ rfl (.tmp 7) rfl 9 keyedS hdR (fun x : Nam => .string ⟨x.toArray⟩) hdO ?ik ?iv b w.heap.size H.length _ left cnt rfl HR.out ?done ?more)
    case ik => intro key kl hk; obtain ⟨x, rfl, _⟩ := keyS_inv hk; exact ⟨x, rfl⟩
    case iv => intro v y hv; obtain ⟨s, rfl, _⟩ := hdR_inv hv; exact ⟨s, rfl⟩
    case done =>
      intro h0 hl
      have HE := Lib.hid (doneK_all (L := L) hl)
      clear h0 hl
      rw [HE.out]
      go_wp2_with fail
      go_ret
      exact ⟨rfl, HU.out⟩
    case more =>
      intro x c kl y yp w2 cnt2 hk hl hy hat hrg hlt hg hsz hen
      obtain ⟨n, e1, rfl, hn⟩ := keyS_inv hk
      have e2 : x = n := by
        have := congrArg (fun v => match v with | Value.string s => s.data.toList | _ => []) e1
        simpa using this
      subst e2
      rw [HH.out] at hat
      obtain ⟨z, bs, hgz, rfl⟩ := step_mem hy hat
      have HLN := Lib.hid (HRS.out _ (getK_mem hgz))
      have hgl : getK L x = some bs := by rw [← HC.out, mapK_get, hgz]; rfl
      have hml := (getK_iff HR0.out).1 hgl
      have HST := Lib.hid (sum_doneK HR0.out hml hl)
      have HLE := Lib.hid (sum_doneK_le L (stepL left x))
      have HR2 := Lib.hid hrg
      have HCL := Lib.hid (show w2.rangeLeft b w.heap.size < wr.rangeLeft b w.heap.size by rw [HR.out.left_eq, hrg.left_eq]; exact hlt)
      have HU2 := Lib.hid ((HU.out.upd (fun _ => False)).grown hg (fun k hk => .inr (by injection hk with hk; omega)) |>.ext (Ext.refl w) (fun _ h => h.elim))
      clear hk hl hy hat hrg hlt hg hsz hgz hgl hml HR HU e1 hn
      obtain ⟨A, cc, e, hll, -⟩ := HLN.out
      simp only [hdV, Value.slice.injEq] at e
      have HLL := Lib.hid e.2.1
      clear e hll A cc
      simp only [hdO, hdV] at hen ⊢
      go_wp2_with fail
      go_roundw
      case rel =>
        refine ⟨_, _, ?_, HR2, HU2⟩
        have e1 := HST.out
        unfold stepL at e1
        have e2 := HLE.out
        unfold stepL at e2
        have e3 := HS.out
        rw [e1] at e2
        rw [e1, HLL.out, IntWalk.wrap64_in _ (by omega)]
        simp
      case measure => exact HCL.out

/-- Blocks of the call's own but o. -/
def Fresh (s o : Nat) (k : Nat) : Prop := s ≤ k ∧ k ≠ o
set_option maxRecDepth 100000 in
set_option maxHeartbeats 2000000 in
theorem copied_calls (w : World) (b : Nat) (D : Nat → Prop) (L : KL Nam) (h : TabF w b D L) (hn1 : L.length ≤ 100000) :
    Calls Try.prog 48 #[.map (some b)] w fun e w' => e = .returned (.map (some w.heap.size)) ∧ TabF w' w.heap.size (Fresh w.heap.size w.heap.size) L ∧ Ext w w' := by
  obtain ⟨C, hCL, hm, hr, hc⟩ := h
  have hrL : riseK L := by rw [← hCL]; exact (mapK_rise _).2 hr
  obtain ⟨o, ho⟩ : ∃ o, o = w.heap.size := ⟨_, rfl⟩
  have hbo : ¬ b = o := by have := hm.lt; omega
  have HM := Lib.hid (hm.ext ((Ext.refl w).alloc (.map #[] 0)))
  have HT := Lib.hid (TabF.made w (Fresh w.heap.size w.heap.size))
  have HC := Lib.hid hCL
  have HRC := Lib.hid hr
  have HR0 := Lib.hid hrL
  have HRS := Lib.hid hc
  have HN := Lib.hid hn1
  have HBO := Lib.hid hbo
  clear hm hCL hr hrL hc hn1 hbo
  obtain ⟨H, hH⟩ : ∃ H, H = mapK Prod.fst C := ⟨_, rfl⟩
  have HH := Lib.hid hH
  rw [← hH] at HM
  clear hH
  have hmm := @run_makeMap Try.prog
  go_enter Try.func48, Try.ntmps48
  go_wp2_with (at_range; refine wpList_range_own _ rfl (.tmp 7) 53 rfl 9 23 keyedS Try.underlying53 hdR b H.length (encH H) rfl HM.out ?_)
  intro w1 hrg hg hsz
  have HT1 := Lib.hid (show TabF w1 o (fun k => Fresh o o k ∧ k ≠ w.heap.size + 1) (doneK L (Maps.has (encH H))) by
    rw [doneK_none]
    · rw [ho]
      exact ((TabF.made w _).upd (((Upd.refl (fun _ => False) _)).grown hg (fun k hk => by cases hk)) (fun h => h) (fun _ _ h => h))
    · intro p hp
      rw [HH.out, has_encH, mapK_get]
      rw [← HC.out] at hp
      obtain ⟨q, hq, rfl⟩ := List.mem_map.1 hp
      rw [(getK_iff HRC.out).2 hq]
      rfl)
  have HX1 := Lib.hid (show Ext w w1 from (((Ext.refl w).alloc (.map #[] 0)).upd (fun _ => False)).grown hg (fun k hk => by cases hk) |>.ext (Ext.refl w) (fun _ h => h.elim))
  have HRG := Lib.hid hrg
  have HZ1 := Lib.hid (show w1.heap.size = w.heap.size + 2 by rw [hsz])
  clear hrg hg hsz HT
  go_wp2_with fail
  obtain ⟨r, hr2⟩ : ∃ r, r = w.heap.size + 1 := ⟨_, rfl⟩
  have HRO := Lib.hid (show r = o + 1 by omega)
  have HO := Lib.hid ho
  rw [← hr2] at HRG HT1 ⊢
  rw [← ho] at HZ1 ⊢
  clear ho hr2
  go_loopw [] (fun wr => ∃ (left : Lit → Bool) (cnt : Nat), Hid (wr.ranges Try.prog 9 hdR b r H.length (encH H) left cnt) ∧ Hid (TabF wr o (fun k => Fresh o o k ∧ k ≠ r) (doneK L left)) ∧ Hid (Ext w wr) ∧ Hid (o + 2 ≤ wr.heap.size)) (fun wr => wr.rangeLeft b r)
  case atStart =>
    exact ⟨_, _, HRG, HT1, HX1, Lib.hid (by rw [HZ1.out]; omega)⟩
  case round =>
    clear HRG HX1 HT1 HZ1
    obtain ⟨left, cnt, HR, HT, HU, HZ⟩ := hrel
    go_wp2_with (at_next; refine wpList_next_ranges _ rfl (.tmp 8) rfl 9 keyedS hdR (fun x : Nam => .string ⟨x.toArray⟩) hdO ?ik ?iv b r H.length _ left cnt rfl HR.out ?done ?more)
    case ik => intro key kl hk; obtain ⟨x, rfl, _⟩ := keyS_inv hk; exact ⟨x, rfl⟩
    case iv => intro v y hv; obtain ⟨s, rfl, _⟩ := hdR_inv hv; exact ⟨s, rfl⟩
    case done =>
      intro h0 hl
      have HE := Lib.hid (doneK_all (L := L) hl)
      clear h0 hl
      rw [HE.out] at HT
      go_wp2_with fail
      go_ret
      rw [← HO.out]
      exact ⟨rfl, HT.out.mono fun k hk => hk.1, HU.out⟩
    case more =>
      intro x c kl y yp w2 cnt2 hk hl hy hat hrg hlt hg hsz hen
      obtain ⟨n, e1, rfl, hn⟩ := keyS_inv hk
      have e2 : x = n := by
        have := congrArg (fun v => match v with | Value.string s => s.data.toList | _ => []) e1
        simpa using this
      subst e2
      rw [HH.out] at hat
      obtain ⟨z, bs, hgz, rfl⟩ := step_mem hy hat
      have hgl : getK L x = some bs := by rw [← HC.out, mapK_get, hgz]; rfl
      have HST := Lib.hid (put_doneK HR0.out (left := left) hgl)
      have HX2 := Lib.hid (show Ext w w2 from (HU.out.upd (fun _ => False)).grown hg (fun k hk => .inr (by injection hk with hk; have := HRO.out; have := HO.out; omega)) |>.ext (Ext.refl w) (fun _ h => h.elim))
      have HLN := Lib.hid ((HRS.out _ (getK_mem hgz)).ext HX2.out)
      have HT2 := Lib.hid (HT.out.upd ((Upd.refl (fun k => k = r) wr).grown hg (fun k hk => .inl (by injection hk with hk; exact hk.symm))) (by have := HRO.out; omega) (fun k hk => hk.2))
      have HR2 := Lib.hid hrg
      have HZ2 := Lib.hid (show o + 2 ≤ w2.heap.size by rw [hsz]; exact HZ.out)
      have HCL := Lib.hid (show wr.rangeLeft b r = cnt ∧ cnt2 < cnt from ⟨HR.out.left_eq, hlt⟩)
      have HNX := Lib.hid hn
      clear hk hl hy hat hrg hlt hg hsz hgz hgl HR HU e1 hn HT HZ
      simp only at HLN
      obtain ⟨A, cc, e, hll, -, hlz, -⟩ := id HLN.out
      have HLZ := Lib.hid hlz
      clear e hll hlz A cc
      simp only [hdO] at hen ⊢
      go_wp2_with fail
      refine (CloneN_calls w2 D z bs HLN.out HLZ.out).mono ?_
      rintro e w3 ⟨u, rfl, ho3, hx3⟩
      have HX3 := Lib.hid hx3
      have HT3 := Lib.hid (HT2.out.ext hx3)
      have HR3 := Lib.hid (HR2.out.kept (row := none) ⟨hx3.os, hx3.tape, hx3.output, hx3.size, fun k hk _ => hx3.block k hk⟩ (by simp) (by simp))
      have hlen : (doneK L left).length ≤ 1000000 := by
        have h1 : (doneK L left).length ≤ L.length := List.length_filter_le _ _
        have := HN.out; omega
      obtain ⟨w4, hp1, hp2, hp3⟩ := HT3.out.put HNX.out hlen (ho3.rs.mono fun k hk => (by have := HZ2.out; have := HRO.out; exact ⟨⟨by omega, by omega⟩, by omega⟩)) (fun hk => hk.1.2 rfl)
      rw [HST.out] at hp2
      have HT4 := Lib.hid hp2
      have HR4 := Lib.hid (HR3.out.kept (row := some o) ⟨hp3.os, hp3.tape, hp3.output, hp3.size, fun k hk hne => hp3.block k hk (fun e => hne (by rw [e]))⟩ (by have := HBO.out; simpa using this) (by have := HRO.out; simp; omega))
      have HX4 := Lib.hid (show Ext w w4 from hp3.ext (HX2.out.trans hx3) (fun k hk => by have := HO.out; omega))
      have HZ4 := Lib.hid (show o + 2 ≤ w4.heap.size from Nat.le_trans HZ2.out (Nat.le_trans hx3.size hp3.size))
      have HM4 := Lib.hid (show w4.rangeLeft b r < wr.rangeLeft b r by rw [HR4.out.left_eq, HCL.out.1]; exact HCL.out.2)
      clear hx3 ho3 hp2 hp3 hlen HX3 HT3 HR3 HX2 HT2 HR2 HZ2
      go_wp2_with fail
      go_roundw
      case rel => exact ⟨_, _, HR4, HT4, HX4, HZ4⟩
      case measure => exact HM4.out
end Go.Proofs.Ytjjhmknlhfijjaa
