/-
  Texts of this claim, put together: KeyL, Upd, DskMap, Join, WireSpec, Number, Texts, Bytes, DskBytes, DskTab, DskSpec, Cut.
-/
import Derived.Test.YtjjhmknlhfijjaaZ1
import Derived.WideAt
import Derived.WideShapes
import Derived.Maps.OwnSet
import Derived.Maps.RangeWalk
import Derived.StringKeys
import Derived.Lib.Hide
import Derived.WalkSpells
set_option linter.unusedVariables false
set_option linter.unusedSimpArgs false
namespace Go.Proofs.Ytjjhmknlhfijjaa
open Go.RowKit

abbrev Nam : Type := List UInt8
def nlt (a b : Nam) : Bool := bytesBefore a b
theorem nlt_irrefl (a : Nam) : nlt a a = false := WideAt.bytes_irrefl a
theorem nlt_trans {a b c : Nam} (h : nlt a b = true) (k : nlt b c = true) : nlt a c = true := WideShapes.bytes_trans a b c h k
theorem nlt_total {a b : Nam} (h : a ≠ b) : nlt a b = true ∨ nlt b a = true := WideAt.bytes_total a b h
theorem nlt_ne {a b : Nam} (h : nlt a b = true) : a ≠ b := fun e => by rw [e, nlt_irrefl] at h; cases h
theorem nlt_iff : ∀ a b : Nam, nlt a b = true ↔ a < b
  | [], [] => by simp [nlt, bytesBefore]
  | [], _ :: _ => by simp [nlt, bytesBefore]
  | _ :: _, [] => by simp [nlt, bytesBefore]
  | x :: a, y :: b => by
    have ih := nlt_iff a b
    unfold nlt at ih ⊢
    simp only [bytesBefore, Bool.or_eq_true, decide_eq_true_eq, Bool.and_eq_true, beq_iff_eq, ih, List.cons_lt_cons_iff]
/-- Values by names. -/
abbrev KL (β : Type) : Type := List (Nam × β)
section
variable {β γ : Type}
def riseK (L : KL β) : Prop := L.Pairwise fun a b => nlt a.1 b.1 = true
def getK (L : KL β) (n : Nam) : Option β := (L.find? fun p => decide (p.1 = n)).map (·.2)
def insK (n : Nam) (x : β) : KL β → KL β
  | [] => [(n, x)]
  | y :: l => if nlt n y.1 = true then (n, x) :: y :: l else y :: insK n x l
def delK (L : KL β) (n : Nam) : KL β := L.filter fun p => decide (p.1 ≠ n)
def putK (L : KL β) (n : Nam) (x : β) : KL β := insK n x (delK L n)
def mapK (f : β → γ) (L : KL β) : KL γ := L.map fun p => (p.1, f p.2)
theorem mem_insK {n : Nam} {x : β} {p : Nam × β} : ∀ {L : KL β}, p ∈ insK n x L ↔ p = (n, x) ∨ p ∈ L
  | [] => by simp [insK]
  | y :: l => by
    unfold insK
    split
    · simp
    · rw [List.mem_cons, mem_insK, List.mem_cons]
      constructor
      · rintro (h | h | h)
        · exact .inr (.inl h)
        · exact .inl h
        · exact .inr (.inr h)
      · rintro (h | h | h)
        · exact .inr (.inl h)
        · exact .inl h
        · exact .inr (.inr h)
theorem mem_delK {L : KL β} {n : Nam} {p : Nam × β} : p ∈ delK L n ↔ p ∈ L ∧ p.1 ≠ n := by simp [delK]
theorem mem_putK {L : KL β} {n : Nam} {x : β} {p : Nam × β} : p ∈ putK L n x ↔ p = (n, x) ∨ (p ∈ L ∧ p.1 ≠ n) := by
  unfold putK
  rw [mem_insK, mem_delK]
theorem rise_delK {L : KL β} (h : riseK L) (n : Nam) : riseK (delK L n) := List.Pairwise.filter _ h
theorem rise_insK {n : Nam} {x : β} : ∀ {L : KL β}, riseK L → (∀ p ∈ L, p.1 ≠ n) → riseK (insK n x L)
  | [], _, _ => by simp [insK, riseK]
  | y :: l, hr, hn => by
    unfold riseK at hr
    rw [List.pairwise_cons] at hr
    unfold insK
    split
    · rename_i h
      unfold riseK
      rw [List.pairwise_cons, List.pairwise_cons]
      refine ⟨fun p hp => ?_, hr⟩
      rcases List.mem_cons.1 hp with rfl | hp
      · exact h
      · exact nlt_trans h (hr.1 p hp)
    · rename_i h
      unfold riseK
      rw [List.pairwise_cons]
      refine ⟨fun p hp => ?_, rise_insK hr.2 (fun p hp => hn p (List.mem_cons_of_mem _ hp))⟩
      rcases mem_insK.1 hp with rfl | hp
      · rcases nlt_total (hn y (List.mem_cons_self ..)) with h1 | h1
        · exact h1
        · exact absurd h1 h
      · exact hr.1 p hp
theorem rise_putK {L : KL β} (h : riseK L) (n : Nam) (x : β) : riseK (putK L n x) := rise_insK (rise_delK h n) fun _ hp => (mem_delK.1 hp).2
theorem rise_inj {L : KL β} (h : riseK L) {p q : Nam × β} (hp : p ∈ L) (hq : q ∈ L) (e : p.1 = q.1) : p = q := by
  obtain ⟨i, hi, rfl⟩ := List.getElem_of_mem hp
  obtain ⟨j, hj, rfl⟩ := List.getElem_of_mem hq
  rcases Nat.lt_trichotomy i j with h1 | h1 | h1
  · exact absurd e (nlt_ne (List.pairwise_iff_getElem.1 h i j hi hj h1))
  · subst h1; rfl
  · exact absurd e.symm (nlt_ne (List.pairwise_iff_getElem.1 h j i hj hi h1))
theorem getK_iff {L : KL β} (hr : riseK L) {n : Nam} {x : β} : getK L n = some x ↔ (n, x) ∈ L := by
  unfold getK
  constructor
  · intro h
    rcases hf : L.find? (fun p => decide (p.1 = n)) with _ | p
    · rw [hf] at h; cases h
    · rw [hf] at h
      have h1 := List.find?_some hf
      have h2 := List.mem_of_find?_eq_some hf
      simp only [decide_eq_true_eq] at h1
      simp only [Option.map_some, Option.some.injEq] at h
      obtain ⟨a, b⟩ := p
      simp only at h1 h
      subst h1; subst h
      exact h2
  · intro h
    rcases hf : L.find? (fun p => decide (p.1 = n)) with _ | p
    · have := List.find?_eq_none.1 hf _ h
      simp at this
    · have h1 := List.find?_some hf
      have h2 := List.mem_of_find?_eq_some hf
      simp only [decide_eq_true_eq] at h1
      rw [hf, rise_inj hr h2 h (by exact h1)]
      rfl
theorem getK_none {L : KL β} {n : Nam} : getK L n = none ↔ ∀ p ∈ L, p.1 ≠ n := by
  unfold getK
  rw [Option.map_eq_none_iff, List.find?_eq_none]
  simp
theorem getK_mem {L : KL β} {n : Nam} {x : β} (h : getK L n = some x) : (n, x) ∈ L := by
  unfold getK at h
  rcases hf : L.find? (fun p => decide (p.1 = n)) with _ | p
  · rw [hf] at h; cases h
  · rw [hf] at h
    have h1 := List.find?_some hf
    have h2 := List.mem_of_find?_eq_some hf
    simp only [decide_eq_true_eq] at h1
    simp only [Option.map_some, Option.some.injEq] at h
    obtain ⟨a, b⟩ := p
    simp only at h1 h
    subst h1; subst h
    exact h2
theorem getK_putK {L : KL β} (hr : riseK L) (n m : Nam) (x : β) : getK (putK L n x) m = if m = n then some x else getK L m := by
  split
  · rename_i h
    rw [getK_iff (rise_putK hr n x), h]
    exact mem_putK.2 (.inl rfl)
  · rename_i h
    rcases hf : getK L m with _ | y
    · rw [getK_none]
      intro p hp
      rcases mem_putK.1 hp with rfl | ⟨h1, _⟩
      · exact fun e => h e.symm
      · exact getK_none.1 hf p h1
    · rw [getK_iff (rise_putK hr n x)]
      exact mem_putK.2 (.inr ⟨(getK_iff hr).1 hf, h⟩)
theorem getK_delK {L : KL β} (hr : riseK L) (n m : Nam) : getK (delK L n) m = if m = n then none else getK L m := by
  split
  · rename_i h
    rw [getK_none]
    intro p hp e
    exact (mem_delK.1 hp).2 (e.trans h)
  · rename_i h
    rcases hf : getK L m with _ | y
    · rw [getK_none]
      exact fun p hp => getK_none.1 hf p (mem_delK.1 hp).1
    · rw [getK_iff (rise_delK hr n)]
      exact mem_delK.2 ⟨(getK_iff hr).1 hf, h⟩
/-- Two lists by rising names that answer alike are one. -/
theorem riseK_ext {L M : KL β} (hL : riseK L) (hM : riseK M) (h : ∀ n, getK L n = getK M n) : L = M := by
  have hm : ∀ p, p ∈ L ↔ p ∈ M := fun p => by
    rw [show p = (p.1, p.2) from rfl, ← getK_iff hL, ← getK_iff hM, h]
  have nd : ∀ {K : KL β}, riseK K → K.Nodup := fun hK => List.Pairwise.imp (fun h e => by rw [e] at h; exact absurd rfl (nlt_ne h)) hK
  unfold riseK at hL hM nd
  refine List.Perm.eq_of_pairwise (le := fun a b : Nam × β => nlt a.1 b.1 = true) (fun a b _ _ h1 h2 => ?_) hL hM ?_
  · have := nlt_trans h1 h2
    rw [nlt_irrefl] at this
    cases this
  · exact (List.perm_ext_iff_of_nodup (nd hL) (nd hM)).2 hm
theorem delK_none {L : KL β} {n : Nam} (h : getK L n = none) : delK L n = L := by
  unfold delK
  rw [List.filter_eq_self]
  intro p hp
  simpa using getK_none.1 h p hp
theorem insK_len (n : Nam) (x : β) : ∀ L : KL β, (insK n x L).length = L.length + 1
  | [] => rfl
  | y :: l => by
    unfold insK
    split
    · rfl
    · rw [List.length_cons, insK_len n x l, List.length_cons]
theorem delK_len {L : KL β} (hr : riseK L) {n : Nam} {x : β} (h : getK L n = some x) : (delK L n).length + 1 = L.length := by
  induction L with
  | nil => cases h
  | cons p l ih =>
    unfold riseK at hr
    rw [List.pairwise_cons] at hr
    unfold delK
    by_cases hp : p.1 = n
    · rw [List.filter_cons_of_neg (by simpa using hp), List.filter_eq_self.2, List.length_cons]
      intro q hq
      have := nlt_ne (hr.1 q hq)
      rw [hp] at this
      simpa using this.symm
    · have h' : getK l n = some x := by
        unfold getK at h ⊢
        rw [List.find?_cons] at h
        simp only [decide_eq_false hp] at h
        exact h
      have := ih hr.2 h'
      unfold delK at this
      rw [List.filter_cons_of_pos (by simpa using hp), List.length_cons, List.length_cons, this]
theorem delK_le (L : KL β) (n : Nam) : (delK L n).length ≤ L.length := List.length_filter_le _ _
theorem putK_le (L : KL β) (n : Nam) (x : β) : (putK L n x).length ≤ L.length + 1 := by
  unfold putK
  rw [insK_len]
  have := delK_le L n
  omega
/-! ### the same under another kind of value -/
theorem mapK_ins (f : β → γ) (n : Nam) (x : β) : ∀ L : KL β, mapK f (insK n x L) = insK n (f x) (mapK f L)
  | [] => rfl
  | y :: l => by
    have ih := mapK_ins f n x l
    unfold mapK at ih ⊢
    rw [List.map_cons]
    simp only [insK]
    by_cases h : nlt n y.1 = true
    · rw [if_pos h, if_pos h]; rfl
    · rw [if_neg h, if_neg h, List.map_cons, ih]
theorem mapK_del (f : β → γ) (L : KL β) (n : Nam) : mapK f (delK L n) = delK (mapK f L) n := by
  unfold mapK delK
  rw [List.filter_map]
  rfl
theorem mapK_put (f : β → γ) (L : KL β) (n : Nam) (x : β) : mapK f (putK L n x) = putK (mapK f L) n (f x) := by
  unfold putK
  rw [mapK_ins, mapK_del]
theorem mapK_get (f : β → γ) (L : KL β) (n : Nam) : getK (mapK f L) n = (getK L n).map f := by
  unfold getK mapK
  rw [List.find?_map, Option.map_map, Option.map_map]
  rfl
theorem mapK_len (f : β → γ) (L : KL β) : (mapK f L).length = L.length := by simp [mapK]
theorem mapK_rise (f : β → γ) {L : KL β} : riseK (mapK f L) ↔ riseK L := by
  unfold riseK mapK
  rw [List.pairwise_map]
end
end Go.Proofs.Ytjjhmknlhfijjaa
set_option linter.unusedVariables false
set_option linter.unusedSimpArgs false
namespace Go.Proofs.Ytjjhmknlhfijjaa
open Go.RowKit

/-- Blocks that were there and are none of S have not turned. -/
structure Upd (S : Nat → Prop) (w w' : World) : Prop where
  os : w'.os = w.os
  tape : w'.tape = w.tape
  output : w'.output = w.output
  size : w.heap.size ≤ w'.heap.size
  block : ∀ k, k < w.heap.size → ¬ S k → w'.heap[k]? = w.heap[k]?
section
variable {S T : Nat → Prop} {a b c w w' : World}
theorem Upd.refl (S : Nat → Prop) (w : World) : Upd S w w := ⟨rfl, rfl, rfl, Nat.le_refl _, fun _ _ _ => rfl⟩
theorem Upd.trans (h : Upd S a b) (k : Upd S b c) : Upd S a c :=
  ⟨k.os.trans h.os, k.tape.trans h.tape, k.output.trans h.output, Nat.le_trans h.size k.size, fun i hi hn => (k.block i (Nat.lt_of_lt_of_le hi h.size) hn).trans (h.block i hi hn)⟩
theorem Upd.mono (h : Upd S a b) (hS : ∀ k, S k → T k) : Upd T a b := ⟨h.os, h.tape, h.output, h.size, fun k hk hn => h.block k hk fun hs => hn (hS k hs)⟩
theorem Ext.upd (h : Ext a b) (S : Nat → Prop) : Upd S a b := ⟨h.os, h.tape, h.output, h.size, fun k hk _ => h.block k hk⟩
theorem Upd.ext (h : Upd S b c) (he : Ext a b) (hS : ∀ k, S k → a.heap.size ≤ k) : Ext a c :=
  Below.trans he ⟨h.os, h.tape, h.output, h.size, fun k hk => h.block k (Nat.lt_of_lt_of_le hk he.size) fun hs => by have := hS k hs; omega⟩
theorem Upd.set (h : Upd S a b) {g i : Nat} (hg : S g ∨ a.heap.size ≤ g) (u : Value) : Upd S a (b.setCell ⟨g, i, none⟩ u) :=
  ⟨h.os, h.tape, h.output, by simpa [World.setCell] using h.size, fun k hk hn => (Below.heap_setCell b ⟨g, i, none⟩ u k (by
    intro e
    have e' : k = g := e
    rcases hg with hg | hg
    · exact hn (e' ▸ hg)
    · omega)).trans (h.block k hk hn)⟩
theorem Upd.drew (h : Upd S a b) : Upd S a b.drew := ⟨h.os, h.tape, h.output, h.size, h.block⟩
theorem Upd.drewN (h : Upd S a b) (n : Nat) : Upd S a (b.drewN n) := ⟨h.os, h.tape, h.output, h.size, h.block⟩
theorem Upd.alloc (h : Upd S a b) (o : Obj) : Upd S a (b.alloc o) :=
  ⟨h.os, h.tape, h.output, Nat.le_trans h.size (by simp), fun k hk hn => (Below.heap_alloc b o k (Nat.lt_of_lt_of_le hk h.size)).trans (h.block k hk hn)⟩
theorem Upd.grown (h : Upd S a b) {row : Option Nat} (hg : b.grownBy c row) (hr : ∀ k, row = some k → S k ∨ a.heap.size ≤ k) : Upd S a c :=
  ⟨hg.os.trans h.os, hg.tape.trans h.tape, hg.output.trans h.output, Nat.le_trans h.size hg.size, fun k hk hn =>
    (hg.block k (Nat.lt_of_lt_of_le hk h.size) fun e => (hr k e.symm).elim hn fun h2 => by omega).trans (h.block k hk hn)⟩
theorem Upd.le (h : Upd S a b) : a.heap.size ≤ b.heap.size := h.size
variable {α : Type} {d : Kd α} {v : Value} {xs : List α} {base : Nat} {e : TypeId}
theorem Rs.upd (h : Rs d w T v xs) (hu : Upd S w w') (hd : ∀ b, T b → ¬ S b) : Rs d w' T v xs := h.keep fun b hb hl => hu.block b hl (hd b hb)
theorem Ow.upd (h : Ow d e w base T v xs) (hu : Upd S w w') (hd : ∀ b, T b → ¬ S b) : Ow d e w' base T v xs := h.keep fun b hb hl => hu.block b hl (hd b hb)
theorem blk_upd {g : Nat} {o : Obj} (h : w.heap[g]? = some o) (hu : Upd S w w') (hg : ¬ S g) : w'.heap[g]? = some o :=
  (hu.block g (Array.getElem?_eq_some_iff.1 h).1 hg).trans h
theorem blk_ext {g : Nat} {o : Obj} (h : w.heap[g]? = some o) (hu : Ext w w') : w'.heap[g]? = some o :=
  (hu.block g (Array.getElem?_eq_some_iff.1 h).1).trans h
end
end Go.Proofs.Ytjjhmknlhfijjaa
set_option linter.unusedVariables false
set_option linter.unusedSimpArgs false
namespace Go.Proofs.Ytjjhmknlhfijjaa
open Go.RowKit

/-- A slice's head: it is not nil. -/
structure Hd where
  blk : Nat
  off : Nat
  len : Nat
  cap : Nat
def hdV (h : Hd) : Value := .slice (some ⟨h.blk, h.off, none⟩) h.len h.cap
def hdO : Option Hd → Value
  | none => .slice none 0 0
  | some h => hdV h
def hdD : Option Hd → DataW Unit
  | none => .agg []
  | some h => .agg [.lit (.int .i64 h.blk), .lit (.int .i64 h.off), .lit (.int .i64 h.len), .lit (.int .i64 h.cap)]
theorem hdD_inj {a b : Option Hd} (h : hdD a = hdD b) : a = b := by
  cases a with
  | none => cases b with
    | none => rfl
    | some b => simp [hdD] at h
  | some a => cases b with
    | none => simp [hdD] at h
    | some b =>
      obtain ⟨a1, a2, a3, a4⟩ := a
      obtain ⟨b1, b2, b3, b4⟩ := b
      simp only [hdD, DataW.agg.injEq, List.cons.injEq, DataW.lit.injEq, Lit.int.injEq, true_and, and_true] at h
      obtain ⟨h1, h2, h3, h4⟩ := h
      have e1 : a1 = b1 := by omega
      have e2 : a2 = b2 := by omega
      have e3 : a3 = b3 := by omega
      have e4 : a4 = b4 := by omega
      rw [e1, e2, e3, e4]
def hdR (v : Value) : Option (DataW Unit × List MemPlace) :=
  match v with
  | .slice none 0 0 => some (hdD none, [])
  | .slice (some ⟨b, o, none⟩) n c => some (hdD (some ⟨b, o, n, c⟩), [])
  | _ => none
theorem hdR_mk (h : Option Hd) : hdR (hdO h) = some (hdD h, []) := by cases h <;> rfl
theorem hdR_inv {v : Value} {z : DataW Unit × List MemPlace} (h : hdR v = some z) : ∃ x, v = hdO x ∧ z = (hdD x, []) := by
  unfold hdR at h
  split at h
  · injection h with h; exact ⟨none, rfl, h.symm⟩
  · rename_i b o n c; injection h with h; exact ⟨some ⟨b, o, n, c⟩, rfl, h.symm⟩
  · cases h
def entP (p : Nam × Hd) : Lit × DataW Unit := (.string p.1, hdD (some p.2))
def encH (L : KL Hd) : DataW Unit := .map (L.map entP)
theorem same_s (a b : Nam) : (Lit.string a).sameKey (.string b) = decide (a = b) := by
  by_cases h : a = b <;> simp [Lit.sameKey, h]
theorem has_encH (L : KL Hd) (n : Nam) : Maps.has (encH L) (.string n) = (getK L n).isSome := by
  unfold encH getK
  rw [Maps.has_eq, List.any_map, Option.isSome_map]
  induction L with
  | nil => rfl
  | cons s l ih =>
    rw [List.any_cons, List.find?_cons, ih]
    by_cases h : s.1 = n
    · simp [entP, same_s, h]
    · simp [entP, same_s, h]
theorem atKey_encH (L : KL Hd) (n : Nam) (z : Option Hd) : (encH L).atKey (.string n) (hdD z) = hdD ((getK L n).map some |>.getD z) := by
  unfold encH getK DataW.atKey
  simp only
  induction L with
  | nil => rfl
  | cons s l ih =>
    rw [List.map_cons, List.find?_cons, List.find?_cons]
    simp only [entP, same_s]
    by_cases h : s.1 = n
    · simp [h]
    · simp only [h, decide_false]
      exact ih
theorem size_encH (L : KL Hd) : Maps.size (encH L) = L.length := by simp [encH, Maps.size_eq]
theorem insert_encH (n : Nam) (x : Hd) : ∀ L : KL Hd, DataW.insert (entP (n, x)) (L.map entP) = (insK n x L).map entP
  | [] => rfl
  | y :: l => by
    have ih := insert_encH n x l
    unfold insK
    rw [List.map_cons]
    simp only [DataW.insert]
    by_cases h : nlt n y.1 = true
    · rw [if_pos h, if_pos (by simp only [entP, Lit.before]; exact h)]
      rfl
    · rw [if_neg h, if_neg (by simp only [entP, Lit.before]; exact h), ih]
      rfl
theorem put_encH (L : KL Hd) (n : Nam) (x : Hd) : (encH L).put (.string n) (hdD (some x)) = encH (putK L n x) := by
  unfold encH putK
  rw [DataW.put_eq]
  unfold ChangeMaps.putKey
  rw [← insert_encH]
  congr 2
  unfold delK
  rw [List.filter_map]
  congr 1
  apply List.filter_congr
  intro s _
  simp [ChangeMaps.notKey, entP, same_s]
theorem del_encH (L : KL Hd) (n : Nam) : (encH L).del (.string n) = encH (delK L n) := by
  unfold encH DataW.del delK
  simp only [DataW.map.injEq]
  rw [List.filter_map]
  congr 1
  apply List.filter_congr
  intro s _
  simp [entP, same_s]

/-! ### in memory -/
theorem keyedS : Maps.Keyed Try.prog 9 := Maps.string_keyed Try.underlying9
theorem keyS (n : Nam) (hn : n.length ≤ 9223372036854775807) : keyOf Try.prog 9 (.string ⟨n.toArray⟩) = some (.string n) := by
  have := WideMaps.keyOf_string_mk (P := Try.prog) Try.underlying9 (s := ⟨n.toArray⟩) (by unfold maxLen; show n.toArray.size ≤ _; simpa using hn)
  simpa using this
theorem zeroSl (w : World) : (zeroValue 23).run Try.prog w = .ok (hdO none) w := by kernel_rfl
/-- The map at block b holds the heads L. -/
def HdM (w : World) (b : Nat) (L : KL Hd) : Prop := w.ownsMap Try.prog 9 hdR b L.length (encH L)
section
variable {w w' : World} {b : Nat} {L : KL Hd}
theorem HdM.of {n : Nat} (h : w.ownsMap Try.prog 9 hdR b n (encH L)) : HdM w b L := by
  obtain ⟨es, clock, hb, F, hs, hD⟩ := h
  refine ⟨es, clock, hb, F, ?_, hD⟩
  have h1 := length_read (P := Try.prog) (k := 9) (R0 := hdR) es
  have h2 := DataW.map.inj hD
  rw [← h2, List.length_map] at h1
  omega
theorem HdM.keep (h : HdM w b L) (hk : w'.heap[b]? = w.heap[b]?) : HdM w' b L := by
  obtain ⟨es, clock, hb, F, hs, hD⟩ := h
  exact ⟨es, clock, hk.trans hb, F, hs, hD⟩
theorem HdM.lt (h : HdM w b L) : b < w.heap.size := by
  obtain ⟨es, clock, hb, _⟩ := h
  exact (Array.getElem?_eq_some_iff.1 hb).1
theorem HdM.ext (h : HdM w b L) (he : Ext w w') : HdM w' b L := h.keep (he.block b h.lt)
theorem HdM.look (h : HdM w b L) {n : Nam} (hn : n.length ≤ 9223372036854775807) : (Instr.lookup 53 (.map (some b)) (.string ⟨n.toArray⟩) false).run Try.prog w = .ok (hdO (getK L n)) w := by
  obtain ⟨v, ps, h1, h2⟩ := World.ownsMap.lookup h keyedS Try.underlying53 (zeroSl w) (hdR_mk none) (keyS n hn)
  rw [atKey_encH] at h2
  obtain ⟨s, rfl, e⟩ := hdR_inv h2
  have e1 := hdD_inj (Prod.mk.inj e).1
  rw [h1, ← e1]
  cases getK L n <;> rfl
theorem HdM.size (h : HdM w b L) (ty : TypeId) : (Builtin.len_ #[53] ty #[.map (some b)]).run Try.prog w = .ok (.int .i64 (L.length : Int)) w := by
  have h1 := World.ownsMap.len h Try.underlying53 ty
  rw [size_encH] at h1
  exact h1
theorem HdM.put (h : HdM w b L) (n : Nam) (x : Hd) (hn : n.length ≤ 9223372036854775807) (hl : L.length ≤ 1000000) : ∃ w', (Instr.mapUpdate 53 (.map (some b)) (.string ⟨n.toArray⟩) (hdV x)).run Try.prog w = .ok () w' ∧ HdM w' b (putK L n x) ∧ Upd (fun k => k = b) w w' := by
  obtain ⟨w', h1, h2, h3⟩ := World.ownsMap.update h keyedS Try.underlying53 (by unfold maxLen; omega) (keyS n hn) (hdR_mk (some x))
  rw [put_encH] at h2
  exact ⟨w', h1, HdM.of h2, ⟨h3.os, h3.tape, h3.output, h3.size, fun k hk hn => h3.block k hk (fun e => hn (Option.some.inj e))⟩⟩
theorem mapTurned_upd (h : w.mapTurned w' b) : Upd (fun k => k = b) w w' := by
  have h3 := h.grown
  exact ⟨h3.os, h3.tape, h3.output, h3.size, fun k hk hn => h3.block k hk (fun e => hn (Option.some.inj e))⟩
theorem HdM.del (h : HdM w b L) (n : Nam) (hn : n.length ≤ 9223372036854775807) (ty : TypeId) : ∃ w', (Builtin.delete_ #[53, 9] ty #[.map (some b), .string ⟨n.toArray⟩]).run Try.prog w = .ok (.tuple #[]) w' ∧ HdM w' b (delK L n) ∧ Upd (fun k => k = b) w w' := by
  obtain ⟨w', h1, h2, h3⟩ := World.ownsMap.drop h keyedS Try.underlying53 (keyS n hn) ty
  rw [del_encH] at h2
  exact ⟨w', h1, HdM.of h2, mapTurned_upd h3⟩
theorem look_nil {n : Nam} (hn : n.length ≤ 9223372036854775807) (w : World) : (Instr.lookup 53 (.map none) (.string ⟨n.toArray⟩) false).run Try.prog w = .ok (hdO none) w := by
  have := Maps.look_nil (P := Try.prog) (w := w) false keyedS Try.underlying53 (zeroSl w) (keyS n hn)
  simpa using this
theorem HdM.made (w : World) : HdM (w.alloc (.map #[] 0)) w.heap.size [] := World.ownsMap_made w _ _ _
end
end Go.Proofs.Ytjjhmknlhfijjaa
set_option linter.unusedVariables false
set_option linter.unusedSimpArgs false
namespace Go.Proofs.Ytjjhmknlhfijjaa
open Go.RowKit

theorem flat_take_succ {α : Type} (ls : List (List α)) (k : Nat) (hk : k < ls.length) : (ls.take (k + 1)).flatten = (ls.take k).flatten ++ ls[k] := by
  rw [List.take_succ_eq_append_getElem hk, List.flatten_append]; simp
theorem flat_take_le {α : Type} (ls : List (List α)) (k : Nat) : (ls.take k).flatten.length ≤ ls.flatten.length := by
  conv => rhs; rw [← List.take_append_drop k ls, List.flatten_append, List.length_append]
  omega

/-- How many there are in all. -/
def flen {α : Type} (ls : List (List α)) : Nat := ls.flatten.length
theorem flen_succ {α : Type} (ls : List (List α)) (k : Nat) (hk : k < ls.length) : flen (ls.take (k + 1)) = flen (ls.take k) + ls[k].length := by
  unfold flen; rw [flat_take_succ ls k hk, List.length_append]

end Go.Proofs.Ytjjhmknlhfijjaa
set_option linter.unusedVariables false
set_option linter.unusedSimpArgs false
namespace Go.Proofs.Ytjjhmknlhfijjaa

/-- A number's higher groups, each with the mark that more follow. -/
def hi (n : Nat) : List UInt8 := if h : n = 0 then [] else hi (n / 128) ++ [byt (128 + n % 128)]
termination_by n
decreasing_by omega
/-- A number's bytes. -/
def digs (n : Nat) : List UInt8 := hi (n / 128) ++ [byt (n % 128)]
theorem hi_zero : hi 0 = [] := by rw [hi]; simp
theorem hi_pos (n : Nat) (h : 0 < n) : hi n = hi (n / 128) ++ [byt (128 + n % 128)] := by rw [hi]; rw [dif_neg (by omega)]
theorem hi_len (j : Nat) : ∀ n, n < 128 ^ j → (hi n).length ≤ j := by
  induction j with
  | zero => intro n h; have : n = 0 := by simpa using h
            subst this; simp [hi_zero]
  | succ j ih =>
    intro n h
    rcases Nat.eq_zero_or_pos n with h0 | h0
    · subst h0; simp [hi_zero]
    · rw [hi_pos n h0, List.length_append, List.length_singleton]
      have := ih (n / 128) (Nat.div_lt_of_lt_mul (by rw [Nat.pow_succ] at h; omega))
      omega
theorem digs_len (n : Nat) (h : n ≤ 9223372036854775807) : 1 ≤ (digs n).length ∧ (digs n).length ≤ 9 := by
  unfold digs
  rw [List.length_append, List.length_singleton]
  have := hi_len 8 (n / 128) (by omega)
  omega
end Go.Proofs.Ytjjhmknlhfijjaa
set_option linter.unusedVariables false
set_option linter.unusedSimpArgs false
namespace Go.Proofs.Ytjjhmknlhfijjaa
open Go.RowKit

/-- The array of a number's groups: what is not written yet, and what is. -/
def grp (i : Nat) (acc : List UInt8) : Array Value := (List.replicate i (Value.int .u8 0) ++ acc.map encB).toArray
theorem grp_set (i : Nat) (b : UInt8) (acc : List UInt8) : (grp (i + 1) acc).setIfInBounds i (encB b) = grp i (b :: acc) := by
  unfold grp
  rw [List.setIfInBounds_toArray, List.set_append_left _ _ (by simp), List.replicate_succ', List.set_append_right _ _ (by simp)]
  simp
theorem grp_at (i : Nat) (acc : List UInt8) (j : Nat) (x : UInt8) (h : acc[j]? = some x) : (grp i acc)[i + j]? = some (.int .u8 (x.toNat : Int)) := by
  unfold grp
  rw [List.getElem?_toArray, List.getElem?_append_right (by simp)]
  simp [h, encB]

theorem bv_i64 (a : Nat) (ha : a < 9223372036854775808) : (BitVec.ofInt 64 (a : Int)).toNat = a := by
  rw [BitVec.ofInt_natCast, BitVec.toNat_ofNat]; exact Nat.mod_eq_of_lt (by omega)
theorem and127 (m : Nat) (h : m < 9223372036854775808) : bits .and .i64 (m : Int) 127 = ((m % 128 : Nat) : Int) := by
  have hx : m &&& 127 = m % 128 := by
    rw [show (127 : Nat) = 2 ^ 7 - 1 from rfl, Nat.and_two_pow_sub_one_eq_mod]
  show IntKind.i64.wrap ((BitVec.ofInt 64 (m : Int) &&& BitVec.ofInt 64 ((127 : Nat) : Int)).toNat : Int) = _
  rw [BitVec.toNat_and, bv_i64 m h, bv_i64 127 (by omega), hx, IntKind.wrap_i64]
  omega
theorem or128 (m : Nat) (h : m < 128) : bits .or .u8 (m : Int) 128 = ((128 + m : Nat) : Int) := by
  have : ∀ k : Fin 128, bits .or .u8 (k.val : Int) 128 = ((128 + k.val : Nat) : Int) := by decide +kernel
  exact this ⟨m, h⟩
theorem low_cell (m : Nat) (h : m < 9223372036854775808) : Value.int .u8 (bits .and .i64 (m : Int) 127 % 256) = encB (byt (m % 128)) := by
  rw [and127 m h, encB, byt_toNat]
  congr 1

theorem high_cell (m : Nat) (h : m < 9223372036854775808) : Value.int .u8 (bits .or .u8 (bits .and .i64 (m : Int) 127 % 256) 128) = encB (byt (128 + m % 128)) := by
  rw [and127 m h, encB, byt_toNat, show ((m % 128 : Nat) : Int) % 256 = ((m % 128 : Nat) : Int) by omega, or128 _ (by omega)]
  congr 1
  omega

theorem slice_arr (P : Program) (t e n : Nat) (info : TypeInfo) (ht : P.underlying t = some (.array n e)) (hi : P.info? e = some info) (h1 : info.size = 1) (g i : Nat) (hin : i < n) (W : World) :
    (Instr.sliceAt t (.pointer (some ⟨g, 0, none⟩)) (some (.int .i64 (i : Int))) none none).run P W = .ok (.slice (some ⟨g, i, none⟩) (n - i) (n - i)) W := by
  have hb : (Instr.sliceBound (.int .i64 (i : Int)) n .sliceB).run P W = .ok i W := by
    have := @run_sliceBound P W .i64 (i : Int) n .sliceB (by omega) (by omega)
    simpa using this
  have hne : ¬ n = i := by omega
  simp [Instr.sliceAt, Instr.sureAddr, run_underlying ht, Instr.sliceBounds, hb, sizeOf, typeInfo, hi, h1, hne, add_lit0]

end Go.Proofs.Ytjjhmknlhfijjaa
set_option linter.unusedVariables false
set_option linter.unusedSimpArgs false
namespace Go.Proofs.Ytjjhmknlhfijjaa
open Go.RowKit

theorem tString : Try.prog.underlying 9 = some .string := by kernel_rfl
theorem tByte : Try.prog.underlying 5 = some (.int .u8) := by kernel_rfl

end Go.Proofs.Ytjjhmknlhfijjaa
set_option linter.unusedVariables false
set_option linter.unusedSimpArgs false
namespace Go.Proofs.Ytjjhmknlhfijjaa
open Go.RowKit

set_option maxHeartbeats 400000 in
theorem Clone_calls (w : World) (S : Nat → Prop) (v : Value) (bs : List UInt8) (hr : Rs kByte w S v bs) (hsz : bs.length ≤ 140737488355328) :
    Calls Try.prog 33 #[v] w fun e w' => ∃ u, e = .returned u ∧ Ow kByte 5 w' w.heap.size (w.heap.size ≤ ·) u bs ∧ Ext w w' := by
  have HR := Lib.hid hr
  obtain ⟨A, c, rfl, hl, hc, hzl, hrow⟩ := hr
  cases A with
  | none =>
    have : bs = [] := by
      rcases Nat.eq_zero_or_pos bs.length with h0 | h0
      · exact List.eq_nil_of_length_eq_zero h0
      · obtain ⟨ad, h, _⟩ := hrow h0; cases h
    subst this
    clear hrow
    have hq := @Lib.run_eql_slice_nil Try.prog
    go_enter Try.func33, Try.ntmps33
    go_wp2
    go_ret
    exact ⟨_, rfl, Ow.nil _ _ _ _ _, Ext.refl _⟩
  | some ad =>
    clear hrow
    have hq := @Lib.run_eql_slice_nil Try.prog
    go_enter Try.func33, Try.ntmps33
    go_wp2_with (at_builtin; refine wpList_append_Rs kByte rfl (.tmp 5) (.tmp 6) 23 5 rfl tBytes w.heap.size _ _ [] bs (w.heap.size ≤ ·) S rfl rfl ?co (HR.out.alloc _) (fun _ _ h => h) ?cn ?cb ?cz ?_)
    case co => exact Ow.slit (xs := []) (heap_alloc_new _ _) (Nat.le_refl _) (Nat.le_refl _) (by simp) (by simp)
    case cn => intro b hb; simp at hb; omega
    case cb => simpa using hsz
    case cz => simp
    intro v' w2 ho hg _
    have HO := Lib.hid ho
    have HE := Lib.hid (((Ext.refl w).alloc _).grown hg (fun k hk => by simp [Value.ownBlock] at hk; omega))
    clear ho hg
    go_wp2
    go_ret
    exact ⟨_, rfl, HO.out, HE.out⟩

set_option maxHeartbeats 400000 in
theorem Equal_calls (w : World) (S T : Nat → Prop) (v u : Value) (xs ys : List UInt8) (h1 : Rs kByte w S v xs) (h2 : Rs kByte w T u ys) :
    Calls Try.prog 22 #[v, u] w fun e w' => e = .returned (.bool (xs == ys)) ∧ w = w' := by
  have c1 := h1.to_string (P := Try.prog) Try.underlying23 tByte tString
  have c2 := h2.to_string (P := Try.prog) Try.underlying23 tByte tString
  clear h1 h2
  go_enter Try.func22, Try.ntmps22
  go_wp2
  go_ret
  exact ⟨rfl, rfl⟩

theorem Equal_same (w : World) (S T : Nat → Prop) (v u : Value) (xs : List UInt8) (h1 : Rs kByte w S v xs) (h2 : Rs kByte w T u xs) :
    Calls Try.prog 22 #[v, u] w fun e w' => e = .returned (.bool true) ∧ w = w' :=
  (Equal_calls w S T v u xs xs h1 h2).mono fun _ _ ⟨h, k⟩ => ⟨by rw [h]; simp, k⟩
end Go.Proofs.Ytjjhmknlhfijjaa
set_option linter.unusedVariables false
set_option linter.unusedSimpArgs false
namespace Go.Proofs.Ytjjhmknlhfijjaa
open Go.RowKit

theorem ownBlock_head {α : Type} {d : Kd α} {e : TypeId} {w : World} {base : Nat} {S : Nat → Prop} {v : Value} {xs : List α} (h : Ow d e w base S v xs) (hn : v.ownBlock ≠ none) : ∃ x : Hd, v = hdV x ∧ x.len = xs.length := by
  obtain ⟨_, _, cells, ho, _⟩ := h
  rcases ho.2 with ⟨rfl, _⟩ | ⟨g, cap, cur, rfl, _⟩
  · exact absurd rfl hn
  · exact ⟨⟨g, 0, xs.length, cap⟩, rfl, rfl⟩
theorem hdV_own (x : Hd) : (hdV x).ownBlock = some x.blk := rfl
theorem own_some {v o : Value} {k : Nat} (h : v.ownBlock = o.ownBlock ∨ v.ownBlock = some k) (ho : o.ownBlock ≠ none) : v.ownBlock ≠ none := by
  rcases h with h | h
  · rw [h]; exact ho
  · rw [h]; exact fun h => by cases h
theorem hdV_ne (x : Hd) : (hdV x).ownBlock ≠ none := by simp [hdV_own]

set_option maxHeartbeats 400000 in
/-- slices.Clone of a slice that is not nil. -/
theorem CloneN_calls (w : World) (S : Nat → Prop) (x : Hd) (bs : List UInt8) (hr : Rs kByte w S (hdV x) bs) (hsz : bs.length ≤ 140737488355328) :
    Calls Try.prog 33 #[hdV x] w fun e w' => ∃ u : Hd, e = .returned (hdV u) ∧ Ow kByte 5 w' w.heap.size (w.heap.size ≤ ·) (hdV u) bs ∧ Ext w w' := by
  have HR := Lib.hid hr
  clear hr
  unfold hdV at HR ⊢
  have hq := @Lib.run_eql_slice_nil Try.prog
  go_enter Try.func33, Try.ntmps33
  go_wp2_with (at_builtin; refine wpList_append_Rs kByte rfl (.tmp 5) (.tmp 6) 23 5 rfl tBytes w.heap.size _ _ [] bs (w.heap.size ≤ ·) S rfl rfl ?co (HR.out.alloc _) (fun _ _ h => h) ?cn ?cb ?cz ?_)
  case co => exact Ow.slit (xs := []) (heap_alloc_new _ _) (Nat.le_refl _) (Nat.le_refl _) (by simp) (by simp)
  case cn => intro b hb; simp at hb; omega
  case cb => simpa using hsz
  case cz => simp
  intro v' w2 ho hg hb
  obtain ⟨u, rfl, -⟩ := ownBlock_head ho (own_some hb (fun h => by cases h))
  have HO := Lib.hid ho
  have HE := Lib.hid (((Ext.refl w).alloc _).grown hg (fun k hk => by simp [Value.ownBlock] at hk; omega))
  clear ho hg hb
  go_wp2
  go_ret
  exact ⟨u, rfl, HO.out, HE.out⟩
end Go.Proofs.Ytjjhmknlhfijjaa
set_option linter.unusedVariables false
set_option linter.unusedSimpArgs false
namespace Go.Proofs.Ytjjhmknlhfijjaa
open Go.RowKit

/-! ### plain: what a range has met -/
section
variable {β : Type}
def doneK (L : KL β) (left : Lit → Bool) : KL β := L.filter fun p => !left (.string p.1)
def sumK (L : KL Nam) : Nat := (L.map fun p => p.2.length).sum
def stepL (left : Lit → Bool) (n : Nam) : Lit → Bool := fun z => left z && !z.sameKey (.string n)
theorem doneK_none {L : KL β} {left : Lit → Bool} (h : ∀ p ∈ L, left (.string p.1) = true) : doneK L left = [] := by
  unfold doneK
  rw [List.filter_eq_nil_iff]
  intro p hp
  simp [h p hp]
theorem doneK_all {L : KL β} {left : Lit → Bool} (h : ∀ kl, left kl = false) : doneK L left = L := by
  unfold doneK
  rw [List.filter_eq_self]
  intro p _
  simp [h]
theorem rise_doneK {L : KL β} (h : riseK L) (left : Lit → Bool) : riseK (doneK L left) := List.Pairwise.filter _ h
theorem mem_doneK {L : KL β} {left : Lit → Bool} {p : Nam × β} : p ∈ doneK L left ↔ p ∈ L ∧ left (.string p.1) = false := by simp [doneK]
theorem getK_doneK {L : KL β} (hr : riseK L) (left : Lit → Bool) (n : Nam) : getK (doneK L left) n = if left (.string n) = true then none else getK L n := by
  split
  · rename_i h
    rw [getK_none]
    intro p hp e
    have := (mem_doneK.1 hp).2
    rw [e, h] at this
    cases this
  · rename_i h
    rcases hf : getK L n with _ | y
    · rw [getK_none]
      exact fun p hp => getK_none.1 hf p (mem_doneK.1 hp).1
    · rw [getK_iff (rise_doneK hr left)]
      exact mem_doneK.2 ⟨(getK_iff hr).1 hf, by simpa using h⟩
theorem put_doneK {L : KL β} (hr : riseK L) {left : Lit → Bool} {n : Nam} {x : β} (hm : getK L n = some x) : putK (doneK L left) n x = doneK L (stepL left n) := by
  refine riseK_ext (rise_putK (rise_doneK hr left) n x) (rise_doneK hr _) fun m => ?_
  rw [getK_putK (rise_doneK hr left), getK_doneK hr, getK_doneK hr]
  unfold stepL
  rw [same_s]
  by_cases h : m = n
  · subst h; simp [hm]
  · simp [h]
end
theorem sum_doneK : ∀ {L : KL Nam} (_ : riseK L) {left : Lit → Bool} {n x : Nam} (_ : (n, x) ∈ L) (_ : left (.string n) = true), sumK (doneK L (stepL left n)) = sumK (doneK L left) + x.length
  | [], _, _, _, _, hm, _ => by cases hm
  | q :: l, hr, left, n, x, hm, hl => by
    have hr' := hr
    unfold riseK at hr'
    rw [List.pairwise_cons] at hr'
    by_cases hq : q.1 = n
    · have e : q = (n, x) := rise_inj hr (List.mem_cons_self ..) hm hq
      subst e
      have e2 : doneK l (stepL left n) = doneK l left := by
        unfold doneK
        apply List.filter_congr
        intro p hp
        have := nlt_ne (hr'.1 p hp)
        simp only [stepL, same_s]
        rw [decide_eq_false (Ne.symm this)]
        simp
      unfold doneK at e2 ⊢
      rw [List.filter_cons_of_pos (by simp [stepL, same_s]), List.filter_cons_of_neg (by simp [hl]), e2]
      unfold sumK
      simp only [List.map_cons, List.sum_cons]
      omega
    · have hm' : (n, x) ∈ l := by
        rcases List.mem_cons.1 hm with h | h
        · exact absurd (by rw [← h]) hq
        · exact h
      have ih := sum_doneK hr'.2 hm' hl
      unfold doneK at ih ⊢
      by_cases hql : left (.string q.1) = true
      · rw [List.filter_cons_of_neg (by simp [stepL, same_s, hq, hql]), List.filter_cons_of_neg (by simp [hql]), ih]
      · rw [List.filter_cons_of_pos (by simp [stepL, hql]), List.filter_cons_of_pos (by simp [hql])]
        unfold sumK at ih ⊢
        simp only [List.map_cons, List.sum_cons]
        omega
theorem sum_doneK_le (L : KL Nam) (left : Lit → Bool) : sumK (doneK L left) ≤ sumK L := by
  induction L with
  | nil => simp [doneK, sumK]
  | cons q l ih =>
    unfold doneK sumK at ih ⊢
    rw [List.filter_cons]
    split
    · simp only [List.map_cons, List.sum_cons]; omega
    · simp only [List.map_cons, List.sum_cons]; omega
theorem sum_mem {L : KL Nam} {p : Nam × Nam} (h : p ∈ L) : p.2.length ≤ sumK L := by
  unfold sumK
  induction L with
  | nil => cases h
  | cons q l ih =>
    simp only [List.map_cons, List.sum_cons]
    rcases List.mem_cons.1 h with rfl | h
    · omega
    · have := ih h; omega

/-! ### in memory -/
/-- The map at block b holds files; their bytes lie in blocks of D. -/
def TabF (w : World) (b : Nat) (D : Nat → Prop) (L : KL Nam) : Prop :=
  ∃ C : KL (Hd × Nam), mapK Prod.snd C = L ∧ HdM w b (mapK Prod.fst C) ∧ riseK C ∧ ∀ p ∈ C, Rs kByte w D (hdV p.2.1) p.2.2
section
variable {w w' : World} {b : Nat} {D D' S : Nat → Prop} {L : KL Nam}
theorem TabF.rise (h : TabF w b D L) : riseK L := by
  obtain ⟨C, rfl, _, hr, _⟩ := h
  exact (mapK_rise _).2 hr
theorem TabF.lt (h : TabF w b D L) : b < w.heap.size := by
  obtain ⟨C, _, hm, _⟩ := h
  exact hm.lt
theorem TabF.upd (h : TabF w b D L) (hu : Upd S w w') (hb : ¬ S b) (hd : ∀ k, D k → ¬ S k) : TabF w' b D L := by
  obtain ⟨C, rfl, hm, hr, hc⟩ := h
  exact ⟨C, rfl, hm.keep (hu.block b hm.lt hb), hr, fun p hp => (hc p hp).upd hu hd⟩
theorem TabF.ext (h : TabF w b D L) (he : Ext w w') : TabF w' b D L := h.upd (he.upd fun _ => False) (fun h => h) (fun _ _ h => h)
theorem TabF.mono (h : TabF w b D L) (hd : ∀ k, D k → D' k) : TabF w b D' L := by
  obtain ⟨C, rfl, hm, hr, hc⟩ := h
  exact ⟨C, rfl, hm, hr, fun p hp => (hc p hp).mono hd⟩
theorem TabF.bound (h : TabF w b D L) : TabF w b (fun k => D k ∧ k < w.heap.size) L := by
  obtain ⟨C, rfl, hm, hr, hc⟩ := h
  exact ⟨C, rfl, hm, hr, fun p hp => (hc p hp).bound⟩
theorem TabF.look (h : TabF w b D L) {n : Nam} (hn : n.length ≤ 9223372036854775807) :
    (getK L n = none ∧ (Instr.lookup 53 (.map (some b)) (.string ⟨n.toArray⟩) false).run Try.prog w = .ok (.slice none 0 0) w) ∨
    ∃ x bs, getK L n = some bs ∧ (Instr.lookup 53 (.map (some b)) (.string ⟨n.toArray⟩) false).run Try.prog w = .ok (hdV x) w ∧ Rs kByte w D (hdV x) bs := by
  obtain ⟨C, rfl, hm, hr, hc⟩ := h
  have h1 := hm.look hn
  rw [mapK_get] at h1
  rw [mapK_get]
  rcases hf : getK C n with _ | y
  · rw [hf] at h1
    exact .inl ⟨rfl, h1⟩
  · rw [hf] at h1
    exact .inr ⟨y.1, y.2, rfl, h1, hc (n, y) (getK_mem hf)⟩
theorem TabF.size (h : TabF w b D L) (ty : TypeId) : (Builtin.len_ #[53] ty #[.map (some b)]).run Try.prog w = .ok (.int .i64 (L.length : Int)) w := by
  obtain ⟨C, rfl, hm, hr, hc⟩ := h
  have := hm.size ty
  rw [mapK_len] at this ⊢
  exact this
theorem TabF.put (h : TabF w b D L) {n : Nam} (hn : n.length ≤ 9223372036854775807) (hl : L.length ≤ 1000000) {x : Hd} {bs : Nam} (hx : Rs kByte w D (hdV x) bs) (hb : ¬ D b) :
    ∃ w', (Instr.mapUpdate 53 (.map (some b)) (.string ⟨n.toArray⟩) (hdV x)).run Try.prog w = .ok () w' ∧ TabF w' b D (putK L n bs) ∧ Upd (fun k => k = b) w w' := by
  obtain ⟨C, rfl, hm, hr, hc⟩ := h
  rw [mapK_len] at hl
  obtain ⟨w', h1, h2, h3⟩ := hm.put n x hn (by rw [mapK_len]; exact hl)
  refine ⟨w', h1, ⟨putK C n (x, bs), by rw [mapK_put], by rw [mapK_put]; exact h2, rise_putK hr _ _, fun p hp => ?_⟩, h3⟩
  rcases mem_putK.1 hp with rfl | ⟨hp, _⟩
  · exact hx.upd h3 (fun k hk e => hb (e ▸ hk))
  · exact (hc p hp).upd h3 (fun k hk e => hb (e ▸ hk))
theorem TabF.del (h : TabF w b D L) {n : Nam} (hn : n.length ≤ 9223372036854775807) (hb : ¬ D b) (ty : TypeId) :
    ∃ w', (Builtin.delete_ #[53, 9] ty #[.map (some b), .string ⟨n.toArray⟩]).run Try.prog w = .ok (.tuple #[]) w' ∧ TabF w' b D (delK L n) ∧ Upd (fun k => k = b) w w' := by
  obtain ⟨C, rfl, hm, hr, hc⟩ := h
  obtain ⟨w', h1, h2, h3⟩ := hm.del n hn ty
  refine ⟨w', h1, ⟨delK C n, by rw [mapK_del], by rw [mapK_del]; exact h2, rise_delK hr _, fun p hp => ?_⟩, h3⟩
  exact (hc p (mem_delK.1 hp).1).upd h3 (fun k hk e => hb (e ▸ hk))
theorem TabF.made (w : World) (D : Nat → Prop) : TabF (w.alloc (.map #[] 0)) w.heap.size D [] := ⟨[], rfl, HdM.made w, List.Pairwise.nil, fun _ h => by cases h⟩
end
/-- What a range's step meets. -/
theorem step_mem {C : KL (Hd × Nam)} {n : Nam} {c : Option Hd} {y : DataW Unit × List MemPlace} (hy : hdR (hdO c) = some y) (hat : ∀ zd, (encH (mapK Prod.fst C)).atKey (.string n) zd = y.1) :
    ∃ x bs, getK C n = some (x, bs) ∧ c = some x := by
  obtain rfl : y = (hdD c, []) := (Option.some.inj ((hdR_mk c).symm.trans hy)).symm
  rcases hf : getK C n with _ | q
  · have h1 := hat (hdD none)
    have h2 := hat (hdD (some ⟨0, 0, 0, 0⟩))
    rw [atKey_encH, mapK_get, hf] at h1 h2
    have := hdD_inj (h1.trans h2.symm)
    cases this
  · have h1 := hat (hdD none)
    rw [atKey_encH, mapK_get, hf] at h1
    exact ⟨q.1, q.2, rfl, (hdD_inj h1).symm⟩
theorem keyS_inv {key : Value} {kl : Lit} (h : keyOf Try.prog 9 key = some kl) : ∃ n : Nam, key = .string ⟨n.toArray⟩ ∧ kl = .string n ∧ n.length ≤ 9223372036854775807 := by
  obtain ⟨s, rfl, h2, h1⟩ := WideMaps.string_of_keyOf (P := Try.prog) Try.underlying9 h
  exact ⟨s.data.toList, rfl, h2, h1⟩
end Go.Proofs.Ytjjhmknlhfijjaa
set_option linter.unusedVariables false
set_option linter.unusedSimpArgs false
namespace Go.Proofs.Ytjjhmknlhfijjaa
open Go.RowKit

inductive ActK where
  | wr (n : Nam) (a : Nat)
  | tr (n : Nam) (a : Nat)
  | mv (o t : Nam)
  | dp (n : Nam)
structure ActS where
  k : ActK
  data : Nam
def ins (old : Nam) (a : Nat) (b : Nam) : Nam := old.take a ++ b ++ old.drop (a + b.length)
def bytesK (L : KL Nam) (n : Nam) : Nam := (getK L n).getD []
def fitA (L : KL Nam) : ActK → Prop
  | .wr n a => a ≤ (bytesK L n).length
  | .tr n a => a ≤ (bytesK L n).length
  | .mv o _ => (getK L o).isSome = true
  | .dp _ => True
def doA (L : KL Nam) : ActK → Nam → KL Nam
  | .wr n a, b => putK L n (ins (bytesK L n) a b)
  | .tr n a, _ => putK L n ((bytesK L n).take a)
  | .mv o t, _ => putK (delK L o) t (bytesK L o)
  | .dp n, _ => delK L n
/-- A file's bytes, at every world where the map has not turned. -/
theorem TabF.at_ {w : World} {b : Nat} {D : Nat → Prop} {L : KL Nam} (h : TabF w b D L) {n : Nam} (hn : n.length ≤ 9223372036854775807) :
    ∃ A m c, (∀ W : World, W.heap[b]? = w.heap[b]? → (Instr.lookup 53 (.map (some b)) (.string ⟨n.toArray⟩) false).run Try.prog W = .ok (.slice A m c) W) ∧ Rs kByte w D (.slice A m c) (bytesK L n) ∧ A.isSome = (getK L n).isSome := by
  obtain ⟨C, rfl, hm, hr, hc⟩ := h
  have h1 := fun W hW => (hm.keep (w' := W) hW).look hn
  unfold bytesK
  rw [mapK_get] at h1 ⊢
  rcases hf : getK C n with _ | y
  · rw [hf] at h1
    exact ⟨none, 0, 0, h1, Rs.nil _ _ _, rfl⟩
  · rw [hf] at h1
    exact ⟨_, _, _, h1, hc (n, y) (getK_mem hf), rfl⟩
/-- What names may be. -/
def chrF (c : UInt8) : Bool := (decide (97 ≤ c.toNat) && decide (c.toNat ≤ 122)) || (decide (48 ≤ c.toNat) && decide (c.toNat ≤ 57)) || decide (c.toNat = 46)
def mayF (n : Nam) : Bool := decide (1 ≤ n.length) && decide (n.length ≤ 32) && n.all chrF
theorem mayF_len {n : Nam} (h : mayF n = true) : 1 ≤ n.length ∧ n.length ≤ 32 := by
  unfold mayF at h
  simp only [Bool.and_eq_true, decide_eq_true_eq] at h
  exact h.1
def namesA : ActK → List Nam
  | .wr n _ => [n]
  | .tr n _ => [n]
  | .mv o t => [o, t]
  | .dp n => [n]
end Go.Proofs.Ytjjhmknlhfijjaa
set_option linter.unusedVariables false
set_option linter.unusedSimpArgs false
namespace Go.Proofs.Ytjjhmknlhfijjaa
open Go.RowKit

/-- The model's words for what is left of a slice. -/
def restA (A : Option Addr) (c k : Nat) : Option Addr := if c = k then A else Option.map (fun x => x.add k) A
/-- A part of a slice. -/
def partV (A : Option Addr) (c l h : Nat) : Value := .slice (restA A c l) (h - l) (c - l)
theorem partV_eq (A : Option Addr) (c l h : Nat) : partV A c l h = .slice (restA A c l) (h - l) (c - l) := rfl

section
variable {P : Program} {t e : TypeId} {z : Value} {bytes : Nat}
theorem slice_from (hE : ElemT P t e z 1 bytes) (A : Option Addr) (len cap : Nat) (k : IntKind) (l : Int) (L : Nat) (hl : l = (L : Int)) (h : L ≤ len) (W : World) :
    (Instr.sliceAt t (.slice A len cap) (some (.int k l)) none none).run P W = .ok (partV A cap L len) W := by
  obtain ⟨i, hi, hz0, hz1, hz2⟩ := info_parts hE.info
  have ht : P.underlying t = some (.slice (P.elem t)) := by rw [hE.under]; simp [Program.elem, hE.under]
  have he : P.elem t = e := by simp [Program.elem, hE.under]
  subst hl
  rw [run_sliceAt_slice _ _ _ _ _ _ ht, run_slice_l _ _ _ _ _ ht _ _ (by omega) (by omega), he]
  simp [sizeOf, typeInfo, hi, hz1, sliced, partV, restA]
theorem slice_to (hE : ElemT P t e z 1 bytes) (A : Option Addr) (len cap : Nat) (k : IntKind) (h : Int) (H : Nat) (hh : h = (H : Int)) (hc : H ≤ cap) (W : World) :
    (Instr.sliceAt t (.slice A len cap) none (some (.int k h)) none).run P W = .ok (partV A cap 0 H) W := by
  obtain ⟨i, hi, hz0, hz1, hz2⟩ := info_parts hE.info
  have ht : P.underlying t = some (.slice (P.elem t)) := by rw [hE.under]; simp [Program.elem, hE.under]
  have he : P.elem t = e := by simp [Program.elem, hE.under]
  subst hh
  rw [run_sliceAt_slice _ _ _ _ _ _ ht, run_slice_h _ _ _ _ _ ht _ _ (by omega) (by omega), he]
  simp [sizeOf, typeInfo, hi, hz1, sliced, partV, restA]
theorem slice_of (hE : ElemT P t e z 1 bytes) (A : Option Addr) (len cap : Nat) (k k' : IntKind) (l h : Int) (L H : Nat) (hl : l = (L : Int)) (hh : h = (H : Int)) (hlh : L ≤ H) (hc : H ≤ cap) (W : World) :
    (Instr.sliceAt t (.slice A len cap) (some (.int k l)) (some (.int k' h)) none).run P W = .ok (partV A cap L H) W := by
  obtain ⟨i, hi, hz0, hz1, hz2⟩ := info_parts hE.info
  have ht : P.underlying t = some (.slice (P.elem t)) := by rw [hE.under]; simp [Program.elem, hE.under]
  have he : P.elem t = e := by simp [Program.elem, hE.under]
  subst hl; subst hh
  rw [run_sliceAt_slice _ _ _ _ _ _ ht, run_slice_lh _ _ _ _ _ ht _ _ _ _ (by omega) (by omega) (by omega), he]
  simp [sizeOf, typeInfo, hi, hz1, sliced, partV, restA]
end

theorem Rs.part {α : Type} {d : Kd α} {w : World} {S : Nat → Prop} {A : Option Addr} {m c l h : Nat} {xs : List α} (hr : Rs d w S (.slice A m c) xs) (hd : d.sz = 1) (hl : l ≤ h) (hh : h ≤ xs.length) :
    Rs d w S (partV A c l h) ((xs.drop l).take (h - l)) := by
  obtain ⟨A', c', he, hlen, hc, hz, hrow⟩ := hr
  injection he with e1 e2 e3
  subst e1; subst e3
  have e : ((xs.drop l).take (h - l)).length = h - l := by rw [List.length_take, List.length_drop]; omega
  refine ⟨_, c - l, by rw [e]; rfl, by rw [e]; omega, by omega, by rw [e]; omega, ?_⟩
  unfold restA
  split
  · exact Row.empty (by rw [e]; omega)
  · have := (hrow.drop l).take (h - l)
    rw [hd, Nat.mul_one] at this
    exact this
theorem Rs.from_ {α : Type} {d : Kd α} {w : World} {S : Nat → Prop} {A : Option Addr} {m c l : Nat} {xs : List α} (hr : Rs d w S (.slice A m c) xs) (hd : d.sz = 1) (hl : l ≤ xs.length) :
    Rs d w S (partV A c l xs.length) (xs.drop l) := by
  have := hr.part hd hl (Nat.le_refl _)
  rwa [List.take_of_length_le (by rw [List.length_drop]; omega)] at this
theorem Rs.to_ {α : Type} {d : Kd α} {w : World} {S : Nat → Prop} {A : Option Addr} {m c h : Nat} {xs : List α} (hr : Rs d w S (.slice A m c) xs) (hd : d.sz = 1) (hh : h ≤ xs.length) :
    Rs d w S (partV A c 0 h) (xs.take h) := by
  have := hr.part hd (Nat.zero_le h) hh
  simpa using this
/-- The same slice, its form laid open. -/
theorem Rs.shape {α : Type} {d : Kd α} {w : World} {S : Nat → Prop} {A : Option Addr} {m c : Nat} {xs : List α} (hr : Rs d w S (.slice A m c) xs) : m = xs.length ∧ xs.length ≤ c ∧ c ≤ 9223372036854775807 ∧ xs.length ≤ 140737488355328 ∧ Row d w S A xs := by
  obtain ⟨A', c', he, hlen, hc, hz, hrow⟩ := hr
  injection he with e1 e2 e3
  subst e1; subst e3
  exact ⟨e2, hlen, hc, hz, hrow⟩
end Go.Proofs.Ytjjhmknlhfijjaa
