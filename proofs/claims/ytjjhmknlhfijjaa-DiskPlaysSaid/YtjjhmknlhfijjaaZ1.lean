/-
  Texts of this claim, put together: Kit, Opens, Types, Struct, Agg.
-/
import Derived.Below
import Derived.Deep.Draws
import Derived.Deep.AppendLies
import Derived.Maps.AppendAt
import Derived.OwnWalk
import Derived.Laws.BytesArg
import Derived.Laws.MakeOwn
import Derived.Laws.OwnMore
import Derived.Deep.OwnRows
import Derived.Tactics
import Derived.Lib.ConvBytes
import Derived.Laws.Slices
import Derived.WalkKit
import Derived.WalkSpells
import Derived.WalkLawsBesides
import Derived.Lib.Hide
import Derived.KernelRfl
import Derived.RowKit3
import Derived.Deep.LoopGhost
import Derived.Deep.QuietTactic
import Derived.BigQuiet
import Derived.WideLaws
import Derived.Deep.RegionHeld3
import Derived.Laws.Rows
import Derived.Lib.AppendStr
import Derived.ArgAppend
import Derived.ProofKit
import Derived.OpenShut
import Derived.ChangeOld
import Derived.SizedLaws
import Derived.Test.YtjjhmknlhfijjaaProg
import Derived.ChangeArms
set_option linter.unusedVariables false
set_option linter.unusedSimpArgs false
namespace Go.Proofs.Ytjjhmknlhfijjaa
open Go.RowKit

/-- What was there has not turned. -/
abbrev Ext (w w' : World) : Prop := Below w.heap.size w w'
theorem Ext.refl (w : World) : Ext w w := Below.refl _ _
theorem Ext.trans {a b c : World} (h : Ext a b) (k : Ext b c) : Ext a c :=
  Below.trans h ⟨k.os, k.tape, k.output, k.size, fun i hi => k.block i (Nat.lt_of_lt_of_le hi h.size)⟩
theorem Ext.alloc {a b : World} (h : Ext a b) (o : Obj) : Ext a (b.alloc o) := Below.alloc h h.size o
theorem Ext.drew {a b : World} (h : Ext a b) : Ext a b.drew := ⟨h.os, h.tape, h.output, h.size, h.block⟩
theorem Ext.drewN {a b : World} (h : Ext a b) (n : Nat) : Ext a (b.drewN n) := ⟨h.os, h.tape, h.output, h.size, h.block⟩
theorem Ext.set {a b : World} (h : Ext a b) {p : Addr} (hp : a.heap.size ≤ p.block) (u : Value) : Ext a (b.setCell p u) := Below.setCell h hp u
theorem Ext.grown {a b c : World} (h : Ext a b) {row : Option Nat} (hg : b.grownBy c row) (hr : ∀ k, row = some k → a.heap.size ≤ k) : Ext a c := Below.grown h hg h.size hr
theorem Ext.le {a b : World} (h : Ext a b) : a.heap.size ≤ b.heap.size := h.size

theorem Ext.seti {a b : World} (h : Ext a b) {g i : Nat} (hp : a.heap.size ≤ g) (u : Value) : Ext a (b.setCell ⟨g, i, none⟩ u) := h.set hp u

/-- A kind of value: how many cells it has, and what they say. S: the blocks behind it. -/
structure Kd (α : Type) where
  sz : Nat
  K : World → (Nat → Prop) → α → List Value → Prop
  len : ∀ {w S x cs}, K w S x cs → cs.length = sz
  one : ∀ {w S x cs}, K w S x cs → ∀ u ∈ cs, u.oneCell' = true
  mono : ∀ {w : World} {S S' : Nat → Prop} {x cs}, (∀ b, S b → S' b) → K w S x cs → K w S' x cs
  move : ∀ {w w' : World} {S : Nat → Prop} {x cs}, (∀ b, S b → w'.heap[b]? = w.heap[b]?) → K w S x cs → K w' S x cs
  bound : ∀ {w : World} {S : Nat → Prop} {x cs}, K w S x cs → K w (fun b => S b ∧ b < w.heap.size) x cs

/-- Elements that lie from an address on. -/
def Row {α : Type} (d : Kd α) (w : World) (S : Nat → Prop) (A : Option Addr) (xs : List α) : Prop :=
  0 < xs.length → ∃ ad, A = some ad ∧ S ad.block ∧ ad.block < w.heap.size ∧ ∀ j x, xs[j]? = some x → ∃ cs, d.K w S x cs ∧ ∀ i u, cs[i]? = some u → w.cell? (ad.add (j * d.sz + i)) = some u

/-- A slice that reads as xs. -/
def Rs {α : Type} (d : Kd α) (w : World) (S : Nat → Prop) (v : Value) (xs : List α) : Prop :=
  ∃ A c, v = .slice A xs.length c ∧ xs.length ≤ c ∧ c ≤ 9223372036854775807 ∧ xs.length ≤ 140737488355328 ∧ Row d w S A xs

/-- A slice of the call's own: xs, in a row from block base on; nothing inside lies in that row. -/
def Ow {α : Type} (d : Kd α) (e : TypeId) (w : World) (base : Nat) (S : Nat → Prop) (v : Value) (xs : List α) : Prop :=
  (∀ k, v.ownBlock = some k → S k) ∧ xs.length ≤ 140737488355328 ∧
  ∃ cells, w.ownsRow base e d.sz v xs.length cells ∧ ∀ j x, xs[j]? = some x → d.K w (fun b => S b ∧ some b ≠ v.ownBlock) x ((cells.drop (j * d.sz)).take d.sz)

theorem addb (a : Addr) (n : Nat) : (a.add n).block = a.block := by unfold Addr.add; split <;> rfl
theorem add_of_add (a : Addr) (i j : Nat) : (a.add i).add j = a.add (i + j) := by
  unfold Addr.add
  by_cases hi : i = 0 <;> by_cases hj : j = 0 <;> simp [hi, hj, Nat.add_assoc]
theorem add_lit0 (g j : Nat) : (⟨g, 0, none⟩ : Addr).add j = ⟨g, j, none⟩ := by unfold Addr.add; split <;> simp_all

theorem Kd.keep {α : Type} (d : Kd α) {w w' : World} {S : Nat → Prop} {x : α} {cs : List Value} (h : d.K w S x cs) (hk : ∀ b, S b → b < w.heap.size → w'.heap[b]? = w.heap[b]?) : d.K w' S x cs :=
  d.mono (fun _ hb => hb.1) (d.move (w' := w') (fun b hb => hk b hb.1 hb.2) (d.bound h))

section
variable {α : Type} {d : Kd α} {w w' : World} {S S' : Nat → Prop} {v : Value} {xs : List α} {base : Nat} {e : TypeId} {A : Option Addr}

theorem Row.keep (h : Row d w S A xs) (hk : ∀ b, S b → b < w.heap.size → w'.heap[b]? = w.heap[b]?) : Row d w' S A xs := by
  intro hp
  obtain ⟨ad, rfl, hS, hlt, hx⟩ := h hp
  refine ⟨ad, rfl, hS, ?_, fun j x hj => ?_⟩
  · have := hk _ hS hlt
    rcases Nat.lt_or_ge ad.block w'.heap.size with h1 | h1
    · exact h1
    · rw [Array.getElem?_eq_none h1, Array.getElem?_eq_getElem hlt] at this
      cases this
  · obtain ⟨cs, hK, hcell⟩ := hx j x hj
    refine ⟨cs, d.keep hK hk, fun i u hi => ?_⟩
    rw [World.cell?_of_block (w := w) (by rw [addb]; exact hk _ hS hlt)]
    exact hcell i u hi
theorem Row.mono (h : Row d w S A xs) (hS : ∀ b, S b → S' b) : Row d w S' A xs := by
  intro hp
  obtain ⟨ad, rfl, hb, hl, hx⟩ := h hp
  exact ⟨ad, rfl, hS _ hb, hl, fun j x hj => let ⟨cs, hK, hcell⟩ := hx j x hj; ⟨cs, d.mono hS hK, hcell⟩⟩
theorem Row.bound (h : Row d w S A xs) : Row d w (fun b => S b ∧ b < w.heap.size) A xs := by
  intro hp
  obtain ⟨ad, rfl, hb, hl, hx⟩ := h hp
  exact ⟨ad, rfl, ⟨hb, hl⟩, hl, fun j x hj => let ⟨cs, hK, hcell⟩ := hx j x hj; ⟨cs, d.bound hK, hcell⟩⟩
theorem Row.nil (d : Kd α) (w : World) (S : Nat → Prop) (A : Option Addr) : Row d w S A [] := fun h => absurd h (by simp)
theorem Row.get (h : Row d w S A xs) {j : Nat} (hj : j < xs.length) : ∃ ad cs, A = some ad ∧ S ad.block ∧ ad.block < w.heap.size ∧ d.K w S xs[j] cs ∧ ∀ i u, cs[i]? = some u → w.cell? (ad.add (j * d.sz + i)) = some u := by
  obtain ⟨ad, rfl, hb, hl, hx⟩ := h (by omega)
  obtain ⟨cs, hK, hc⟩ := hx j _ (List.getElem?_eq_getElem hj)
  exact ⟨ad, cs, rfl, hb, hl, hK, hc⟩
theorem Row.drop (h : Row d w S A xs) (k : Nat) : Row d w S (A.map (·.add (k * d.sz))) (xs.drop k) := by
  intro hp
  rw [List.length_drop] at hp
  obtain ⟨ad, rfl, hb, hl, hx⟩ := h (by omega)
  refine ⟨_, rfl, by rw [addb]; exact hb, by rw [addb]; exact hl, fun j x hj => ?_⟩
  rw [List.getElem?_drop] at hj
  obtain ⟨cs, hK, hc⟩ := hx _ x hj
  refine ⟨cs, hK, fun i u hi => ?_⟩
  rw [add_of_add, ← Nat.add_assoc, ← Nat.add_mul]
  exact hc i u hi
theorem Row.take (h : Row d w S A xs) (k : Nat) : Row d w S A (xs.take k) := by
  intro hp
  rw [List.length_take] at hp
  obtain ⟨ad, rfl, hb, hl, hx⟩ := h (by omega)
  refine ⟨_, rfl, hb, hl, fun j x hj => ?_⟩
  rw [List.getElem?_take] at hj
  split at hj
  · exact hx j x hj
  · cases hj
theorem Row.ite (h : Row d w S A xs) {A' : Option Addr} {p : Prop} [Decidable p] (h' : Row d w S A' xs) : Row d w S (if p then A else A') xs := by split <;> assumption
theorem Row.empty (hx : xs.length = 0) : Row d w S A xs := fun h => absurd h (by omega)

theorem Rs.keep (h : Rs d w S v xs) (hk : ∀ b, S b → b < w.heap.size → w'.heap[b]? = w.heap[b]?) : Rs d w' S v xs := by
  obtain ⟨A, c, rfl, hl, hc, hz, hr⟩ := h
  exact ⟨A, c, rfl, hl, hc, hz, hr.keep hk⟩
theorem Rs.ext (h : Rs d w S v xs) (he : Ext w w') : Rs d w' S v xs := h.keep fun b _ hb => he.block b hb
theorem Rs.mono (h : Rs d w S v xs) (hS : ∀ b, S b → S' b) : Rs d w S' v xs := by
  obtain ⟨A, c, rfl, hl, hc, hz, hr⟩ := h
  exact ⟨A, c, rfl, hl, hc, hz, hr.mono hS⟩
theorem Rs.bound (h : Rs d w S v xs) : Rs d w (fun b => S b ∧ b < w.heap.size) v xs := by
  obtain ⟨A, c, rfl, hl, hc, hz, hr⟩ := h
  exact ⟨A, c, rfl, hl, hc, hz, hr.bound⟩
theorem Rs.under (h : Rs d w S v xs) : Rs d w (· < w.heap.size) v xs := h.bound.mono fun _ hb => hb.2
theorem Rs.nil (d : Kd α) (w : World) (S : Nat → Prop) : Rs d w S (.slice none 0 0) [] := ⟨none, 0, rfl, Nat.le_refl _, by omega, by simp, Row.nil _ _ _ _⟩
theorem Rs.alloc (h : Rs d w S v xs) (o : Obj) : Rs d (w.alloc o) S v xs := h.ext ((Ext.refl w).alloc o)
theorem Rs.drew (h : Rs d w S v xs) : Rs d w.drew S v xs := h.keep fun _ _ _ => rfl
theorem Rs.drewN (h : Rs d w S v xs) (n : Nat) : Rs d (w.drewN n) S v xs := h.keep fun _ _ _ => rfl
theorem Rs.set (h : Rs d w S v xs) {p : Addr} (hp : ¬ S p.block) (u : Value) : Rs d (w.setCell p u) S v xs :=
  h.keep fun b hb _ => Below.heap_setCell w p u b fun e => hp (e ▸ hb)
theorem Rs.grown (h : Rs d w S v xs) {row : Option Nat} (hg : w.grownBy w' row) (hr : ∀ k, row = some k → ¬ S k) : Rs d w' S v xs :=
  h.keep fun b hb hl => hg.block b hl fun e => hr b e.symm hb

theorem Rs.seti (h : Rs d w S v xs) {g i : Nat} (hp : ¬ S g) (u : Value) : Rs d (w.setCell ⟨g, i, none⟩ u) S v xs := h.set hp u

theorem Ow.nil (d : Kd α) (e : TypeId) (w : World) (base : Nat) (S : Nat → Prop) : Ow d e w base S (.slice none 0 0) [] :=
  ⟨fun k hk => by simp [Value.ownBlock] at hk, by simp, [], World.ownsRow_nil _ _ _ _, fun j x hj => by simp at hj⟩
theorem ownsRow_move {size n : Nat} {cells : List Value} (h : w.ownsRow base e size v n cells) (hm : ∀ k, v.ownBlock = some k → w'.heap[k]? = w.heap[k]?) : w'.ownsRow base e size v n cells := by
  obtain ⟨h1, h2⟩ := h
  refine ⟨h1, ?_⟩
  rcases h2 with h2 | ⟨g, cap, cur, rfl, hg, hh, r⟩
  · exact .inl h2
  · exact .inr ⟨g, cap, cur, rfl, hg, (hm g (by simp [Value.ownBlock])).trans hh, r⟩
theorem ownsRow_lt {size n : Nat} {cells : List Value} (h : w.ownsRow base e size v n cells) (k : Nat) (hk : v.ownBlock = some k) : k < w.heap.size := by
  rcases h.2 with ⟨rfl, _⟩ | ⟨g, cap, cur, rfl, hb, hh, _⟩
  · simp [Value.ownBlock] at hk
  · have : g = k := by simpa [Value.ownBlock] using hk
    subst this
    exact (Array.getElem?_eq_some_iff.1 hh).1
theorem ownsRow_base {size n : Nat} {cells : List Value} (h : w.ownsRow base e size v n cells) (k : Nat) (hk : v.ownBlock = some k) : base ≤ k := by
  rcases h.2 with ⟨rfl, _⟩ | ⟨g, cap, cur, rfl, hb, hh, _⟩
  · simp [Value.ownBlock] at hk
  · have : g = k := by simpa [Value.ownBlock] using hk
    omega
theorem ownsRow_lower {size n base' : Nat} {cells : List Value} (h : w.ownsRow base e size v n cells) (hb : base' ≤ base) : w.ownsRow base' e size v n cells := by
  obtain ⟨h1, h2⟩ := h
  refine ⟨h1, ?_⟩
  rcases h2 with h2 | ⟨g, cap, cur, rfl, hg, r⟩
  · exact .inl h2
  · exact .inr ⟨g, cap, cur, rfl, Nat.le_trans hb hg, r⟩
theorem Ow.lt (h : Ow d e w base S v xs) : ∀ k, v.ownBlock = some k → k < w.heap.size := let ⟨_, _, _, ho, _⟩ := h; ownsRow_lt ho
theorem Ow.from_ (h : Ow d e w base S v xs) : ∀ k, v.ownBlock = some k → base ≤ k := let ⟨_, _, _, ho, _⟩ := h; ownsRow_base ho
theorem Ow.keep (h : Ow d e w base S v xs) (hk : ∀ b, S b → b < w.heap.size → w'.heap[b]? = w.heap[b]?) : Ow d e w' base S v xs := by
  have hlt := h.lt
  obtain ⟨h0, hz, cells, ho, hx⟩ := h
  exact ⟨h0, hz, cells, ownsRow_move ho (fun k e => hk k (h0 k e) (hlt k e)), fun j x hj => d.keep (hx j x hj) fun b hb hl => hk b hb.1 hl⟩
theorem Ow.mono (h : Ow d e w base S v xs) (hS : ∀ b, S b → S' b) : Ow d e w base S' v xs := by
  obtain ⟨h0, hz, cells, ho, hx⟩ := h
  exact ⟨fun k hk => hS k (h0 k hk), hz, cells, ho, fun j x hj => d.mono (fun b hb => ⟨hS b hb.1, hb.2⟩) (hx j x hj)⟩
theorem Ow.bound (h : Ow d e w base S v xs) : Ow d e w base (fun b => S b ∧ b < w.heap.size) v xs := by
  have hlt := h.lt
  obtain ⟨h0, hz, cells, ho, hx⟩ := h
  exact ⟨fun k hk => ⟨h0 k hk, hlt k hk⟩, hz, cells, ho, fun j x hj => d.mono (fun b hb => ⟨⟨hb.1.1, hb.2⟩, hb.1.2⟩) (d.bound (hx j x hj))⟩
theorem Ow.under (h : Ow d e w base S v xs) : Ow d e w base (· < w.heap.size) v xs := h.bound.mono fun _ hb => hb.2
theorem Ow.all (h : Ow d e w base S v xs) : Ow d e w base (fun _ => True) v xs := h.mono fun _ _ => trivial
theorem Ow.lower {base' : Nat} (h : Ow d e w base S v xs) (hb : base' ≤ base) : Ow d e w base' S v xs := by
  obtain ⟨h0, hz, cells, ho, hx⟩ := h
  exact ⟨h0, hz, cells, ownsRow_lower ho hb, hx⟩
theorem Ow.ext (h : Ow d e w base S v xs) (he : Ext w w') : Ow d e w' base S v xs := h.keep fun b _ hb => he.block b hb
theorem Ow.alloc (h : Ow d e w base S v xs) (o : Obj) : Ow d e (w.alloc o) base S v xs := h.ext ((Ext.refl w).alloc o)
theorem Ow.drew (h : Ow d e w base S v xs) : Ow d e w.drew base S v xs := h.keep fun _ _ _ => rfl
theorem Ow.drewN (h : Ow d e w base S v xs) (n : Nat) : Ow d e (w.drewN n) base S v xs := h.keep fun _ _ _ => rfl
theorem Ow.set (h : Ow d e w base S v xs) {p : Addr} (hp : ¬ S p.block) (u : Value) : Ow d e (w.setCell p u) base S v xs :=
  h.keep fun b hb _ => Below.heap_setCell w p u b fun e => hp (e ▸ hb)
theorem Ow.grown (h : Ow d e w base S v xs) {row : Option Nat} (hg : w.grownBy w' row) (hr : ∀ k, row = some k → ¬ S k) : Ow d e w' base S v xs :=
  h.keep fun b hb hl => hg.block b hl fun e => hr b e.symm hb
theorem Ow.seti (h : Ow d e w base S v xs) {g i : Nat} (hp : ¬ S g) (u : Value) : Ow d e (w.setCell ⟨g, i, none⟩ u) base S v xs := h.set hp u
/-- What is owned can be read. -/
theorem Ow.rs (h : Ow d e w base S v xs) : Rs d w S v xs := by
  have hlt := h.lt
  obtain ⟨h0, hz, cells, ho, hx⟩ := h
  have ho' := ho
  rcases ho.2 with ⟨rfl, hn⟩ | ⟨g, cap, cur, rfl, hb, hh, hc, hm, hs, ht⟩
  · have : xs = [] := List.eq_nil_of_length_eq_zero hn
    subst this
    exact Rs.nil _ _ _
  · refine ⟨_, cap, rfl, hc, by simpa [maxLen] using hm, hz, fun hp => ⟨_, rfl, h0 g rfl, hlt g rfl, fun j x hj => ⟨_, d.mono (fun b hb => hb.1) (hx j x hj), fun i u hi => ?_⟩⟩⟩
    rw [List.getElem?_take] at hi
    split at hi
    · rw [List.getElem?_drop] at hi
      exact ho'.cells (g := g) rfl _ u hi
    · cases hi
end

/-! ### the kinds -/
def Kd.scalar {α : Type} (P : α → Prop) (enc : α → Value) (h1 : ∀ x, (enc x).oneCell' = true) : Kd α where
  sz := 1
  K := fun _ _ x cs => cs = [enc x] ∧ P x
  len := fun h => by rw [h.1]; rfl
  one := fun h u hu => by
    rw [h.1] at hu
    rw [List.mem_singleton.1 hu]
    exact h1 _
  mono := fun _ h => h
  move := fun _ h => h
  bound := fun h => h
def kByte : Kd UInt8 := Kd.scalar (fun _ => True) (fun b => .int .u8 (b.toNat : Int)) (fun _ => rfl)
/-- A number that an int can hold. -/
def I64 (n : Int) : Prop := -9223372036854775808 ≤ n ∧ n ≤ 9223372036854775807
def kInt : Kd Int := Kd.scalar I64 (fun n => .int .i64 n) (fun _ => rfl)
def kBool : Kd Bool := Kd.scalar (fun _ => True) (fun b => .bool b) (fun _ => rfl)
def kSlice {α : Type} (d : Kd α) : Kd (List α) where
  sz := 1
  K := fun w S xs cs => ∃ v, cs = [v] ∧ Rs d w S v xs
  len := by rintro w S x cs ⟨v, rfl, _⟩; rfl
  one := by
    rintro w S x cs ⟨v, rfl, A, c, rfl, _⟩ u hu
    rw [List.mem_singleton.1 hu]
    rfl
  mono := by rintro w S S' x cs h ⟨v, rfl, hr⟩; exact ⟨v, rfl, hr.mono h⟩
  move := by rintro w w' S x cs h ⟨v, rfl, hr⟩; exact ⟨v, rfl, hr.keep fun b hb _ => h b hb⟩
  bound := by rintro w S x cs ⟨v, rfl, hr⟩; exact ⟨v, rfl, hr.bound⟩

/-! ### bytes -/
theorem Row.byte {w : World} {S : Nat → Prop} {A : Option Addr} {xs : List UInt8} (h : Row kByte w S A xs) {j : Nat} (hj : j < xs.length) : ∃ ad, A = some ad ∧ w.cell? (ad.add j) = some (.int .u8 (xs[j].toNat : Int)) := by
  obtain ⟨ad, cs, rfl, _, _, ⟨rfl, _⟩, hc⟩ := h.get hj
  exact ⟨ad, rfl, by have := hc 0 _ rfl; simpa [kByte, Kd.scalar] using this⟩
theorem Row.slice {α : Type} {d : Kd α} {w : World} {S : Nat → Prop} {A : Option Addr} {xs : List (List α)} (h : Row (kSlice d) w S A xs) {j : Nat} (hj : j < xs.length) : ∃ ad v, A = some ad ∧ w.cell? (ad.add j) = some v ∧ Rs d w S v xs[j] := by
  obtain ⟨ad, cs, rfl, _, _, ⟨v, rfl, hr⟩, hc⟩ := h.get hj
  exact ⟨ad, v, rfl, by have := hc 0 _ rfl; simpa [kSlice] using this, hr⟩
theorem Row.int {w : World} {S : Nat → Prop} {A : Option Addr} {xs : List Int} (h : Row kInt w S A xs) {j : Nat} (hj : j < xs.length) : ∃ ad, A = some ad ∧ w.cell? (ad.add j) = some (.int .i64 xs[j]) ∧ I64 xs[j] := by
  obtain ⟨ad, cs, rfl, _, _, ⟨rfl, hi⟩, hc⟩ := h.get hj
  exact ⟨ad, rfl, by have := hc 0 _ rfl; simpa [kInt, Kd.scalar] using this, hi⟩

/-! ### literals -/
section
variable {α : Type} {d : Kd α} {w : World} {S : Nat → Prop} {g off : Nat} {cs : Array Value} {t : TypeId} {fz : Nat × Nat}
theorem cell_blk (hb : w.heap[g]? = some (.cells cs t fz)) (i : Nat) : w.cell? ⟨g, i, none⟩ = cs[i]? := by simp [World.cell?, hb]
theorem frozen_blk (hb : w.heap[g]? = some (.cells cs t (0, 0))) (i : Nat) : w.frozen? ⟨g, i, none⟩ = false := by simp [World.frozen?, hb]
theorem blk_lt (hb : w.heap[g]? = some (.cells cs t fz)) : g < w.heap.size := (Array.getElem?_eq_some_iff.1 hb).1
theorem add_lit1 (g off j : Nat) : (⟨g, off, none⟩ : Addr).add j = ⟨g, off + j, none⟩ := by unfold Addr.add; split <;> simp_all
theorem Row.of_block (hb : w.heap[g]? = some (.cells cs t fz)) (hS : S g) {xs : List α} (hx : ∀ j x, xs[j]? = some x → ∃ c, d.K w S x c ∧ ∀ i u, c[i]? = some u → cs[off + (j * d.sz + i)]? = some u) :
    Row d w S (some ⟨g, off, none⟩) xs := fun _ => ⟨_, rfl, hS, blk_lt hb, fun j x hj => by
  obtain ⟨c, hK, hc⟩ := hx j x hj
  exact ⟨c, hK, fun i u hi => by rw [add_lit1, cell_blk hb]; exact hc i u hi⟩⟩
theorem Row.bytes_of (hb : w.heap[g]? = some (.cells cs t fz)) (hS : S g) {xs : List UInt8} (hx : ∀ j x, xs[j]? = some x → cs[off + j]? = some (.int .u8 (x.toNat : Int))) : Row kByte w S (some ⟨g, off, none⟩) xs :=
  Row.of_block hb hS fun j x hj => ⟨_, ⟨rfl, trivial⟩, fun i u hi => by
    cases i with
    | zero => simp at hi; subst hi; simpa [kByte, Kd.scalar] using hx j x hj
    | succ i => simp at hi⟩
theorem Row.slices_of {xss : List (List α)} {vs : List Value} (hb : w.heap[g]? = some (.cells vs.toArray t fz)) (hS : S g) (hx : ∀ (j : Nat) (x : List α), xss[j]? = some x → ∃ v, vs[j]? = some v ∧ Rs d w S v x) :
    Row (kSlice d) w S (some ⟨g, 0, none⟩) xss :=
  Row.of_block hb hS fun j x hj => by
    obtain ⟨v, hv, hr⟩ := hx j x hj
    refine ⟨_, ⟨v, rfl, hr⟩, fun i u hi => ?_⟩
    cases i with
    | zero => simp at hi; subst hi; simpa [kSlice] using hv
    | succ i => simp at hi
theorem Rs.two {v1 v2 : Value} {x1 x2 : List α} (hb : w.heap[g]? = some (.cells #[v1, v2] t fz)) (hS : S g) (h1 : Rs d w S v1 x1) (h2 : Rs d w S v2 x2) : Rs (kSlice d) w S (.slice (some ⟨g, 0, none⟩) 2 2) [x1, x2] :=
  ⟨_, 2, rfl, by simp, by omega, by simp, Row.slices_of (vs := [v1, v2]) hb hS fun j x hj => by
    match j, hj with
    | 0, hj => simp at hj; subst hj; exact ⟨v1, rfl, h1⟩
    | 1, hj => simp at hj; subst hj; exact ⟨v2, rfl, h2⟩⟩
theorem Rs.three {v1 v2 v3 : Value} {x1 x2 x3 : List α} (hb : w.heap[g]? = some (.cells #[v1, v2, v3] t fz)) (hS : S g) (h1 : Rs d w S v1 x1) (h2 : Rs d w S v2 x2) (h3 : Rs d w S v3 x3) :
    Rs (kSlice d) w S (.slice (some ⟨g, 0, none⟩) 3 3) [x1, x2, x3] :=
  ⟨_, 3, rfl, by simp, by omega, by simp, Row.slices_of (vs := [v1, v2, v3]) hb hS fun j x hj => by
    match j, hj with
    | 0, hj => simp at hj; subst hj; exact ⟨v1, rfl, h1⟩
    | 1, hj => simp at hj; subst hj; exact ⟨v2, rfl, h2⟩
    | 2, hj => simp at hj; subst hj; exact ⟨v3, rfl, h3⟩⟩
theorem Rs.one_ {v1 : Value} {x1 : List α} (hb : w.heap[g]? = some (.cells #[v1] t fz)) (hS : S g) (h1 : Rs d w S v1 x1) : Rs (kSlice d) w S (.slice (some ⟨g, 0, none⟩) 1 1) [x1] :=
  ⟨_, 1, rfl, by simp, by omega, by simp, Row.slices_of (vs := [v1]) hb hS fun j x hj => by
    match j, hj with
    | 0, hj => simp at hj; subst hj; exact ⟨v1, rfl, h1⟩⟩
end

/-! ### append onto a row of the call's own -/
section
variable {P : Program} {w : World}
theorem run_append_Rs {α : Type} {d : Kd α} (base : Nat) (t ty e : TypeId) (i : TypeInfo) (z : Value) (bytes : Nat) (ht : P.underlying t = some (.slice e)) (hi : P.info? e = some i) (hz : i.zero = some z)
    (hsize : i.size = d.sz) (hby : i.bytes = bytes) (hzs : z.cells.size = d.sz) (hsz : 0 < d.sz)
    (v x : Value) (xs ys : List α) (S T : Nat → Prop) (hown : Ow d e w base S v xs) (hr : Rs d w T x ys)
    (hST : ∀ y cs, d.K w T y cs → d.K w (fun b => S b ∧ some b ≠ v.ownBlock) y cs) (hnew : ∀ b, w.heap.size ≤ b → S b)
    (hbytes : (xs.length + ys.length) * bytes ≤ 140737488355328) (hb1 : 1 ≤ bytes) (hbase : base ≤ w.heap.size) :
    ∃ v' w', (Builtin.append_ #[t, t] ty #[v, x]).run P w = .ok v' w' ∧ Ow d e w' base S v' (xs ++ ys) ∧ w.grownBy w' v.ownBlock ∧
      (v'.ownBlock = v.ownBlock ∨ v'.ownBlock = some w.heap.size) := by
  have h63 : xs.length + ys.length ≤ maxLen := by
    have h1 : (xs.length + ys.length) * 1 ≤ (xs.length + ys.length) * bytes := Nat.mul_le_mul_left _ hb1
    simp only [maxLen]
    omega
  have hle1 : xs.length + ys.length ≤ 140737488355328 := by
    have h1 : (xs.length + ys.length) * 1 ≤ (xs.length + ys.length) * bytes := Nat.mul_le_mul_left _ hb1
    omega
  have hown0 := hown
  obtain ⟨h0, hz0, cells, ho, hx⟩ := hown
  obtain ⟨A, c, rfl, hl, hc, hz1, hrow⟩ := hr
  rcases Nat.eq_zero_or_pos ys.length with hy | hy
  · have : ys = [] := List.eq_nil_of_length_eq_zero hy
    subst this
    refine ⟨v, w, ?_, by simpa using hown0, ⟨rfl, rfl, rfl, Nat.le_refl _, fun _ _ _ => rfl⟩, .inl rfl⟩
    have hn := ho
    rcases ho.2 with ⟨rfl, h3⟩ | ⟨g, cap, cur, rfl, _, _, hnc, _⟩
    · cases A <;> simp [Builtin.append_, run_underlying ht, sizeOf, typeInfo, hi, Builtin.lenOf, Builtin.firstCells, loadCells, loadCellsFrom]
    · cases A <;> simp [Builtin.append_, run_underlying ht, sizeOf, typeInfo, hi, Builtin.lenOf, Builtin.firstCells, loadCells, loadCellsFrom, hnc, storeCells]
  · obtain ⟨ad, rfl, hT, hlt, hget⟩ := hrow hy
    -- the new cells
    have hex : ∃ news : List Value, news.length = ys.length * d.sz ∧ (∀ j u, news[j]? = some u → w.cell? (ad.add j) = some u) ∧ (∀ u ∈ news, u.oneCell' = true) ∧
        ∀ j y, ys[j]? = some y → d.K w T y ((news.drop (j * d.sz)).take d.sz) := by
      clear hbytes h63 hl hy hc
      have gen : ∀ (zs : List α) (off : Nat), (∀ j y, zs[j]? = some y → ∃ cs, d.K w T y cs ∧ ∀ i u, cs[i]? = some u → w.cell? (ad.add ((off + j) * d.sz + i)) = some u) →
          ∃ news : List Value, news.length = zs.length * d.sz ∧ (∀ j u, news[j]? = some u → w.cell? (ad.add (off * d.sz + j)) = some u) ∧ (∀ u ∈ news, u.oneCell' = true) ∧
            ∀ j y, zs[j]? = some y → d.K w T y ((news.drop (j * d.sz)).take d.sz) := by
        intro zs
        induction zs with
        | nil => exact fun off _ => ⟨[], by simp, fun j u h => by simp at h, fun u h => by simp at h, fun j y h => by simp at h⟩
        | cons y zs ih =>
          intro off hz
          obtain ⟨cs, hK, hcs⟩ := hz 0 y rfl
          obtain ⟨news, n1, n2, n3, n4⟩ := ih (off + 1) fun j y hj => by
            obtain ⟨cs, hK, hcs⟩ := hz (j + 1) y (by simpa using hj)
            exact ⟨cs, hK, fun i u hi => by have := hcs i u hi; rwa [show off + 1 + j = off + (j + 1) by omega]⟩
          have hlen := d.len hK
          refine ⟨cs ++ news, by rw [List.length_append, hlen, n1, List.length_cons, Nat.add_mul, Nat.one_mul, Nat.add_comm], fun j u hj => ?_, fun u hu => ?_, fun j y' hj => ?_⟩
          · rcases Nat.lt_or_ge j cs.length with h1 | h1
            · rw [List.getElem?_append_left h1] at hj
              exact hcs j u hj
            · rw [List.getElem?_append_right h1] at hj
              have := n2 _ u hj
              rwa [hlen, Nat.add_mul, Nat.one_mul, show off * d.sz + d.sz + (j - d.sz) = off * d.sz + j by omega] at this
          · rcases List.mem_append.1 hu with h1 | h1
            · exact d.one hK u h1
            · exact n3 u h1
          · cases j with
            | zero =>
              have : y = y' := by simpa using hj
              subst this
              rw [Nat.zero_mul, List.drop_zero, ← hlen, List.take_left]
              exact hK
            | succ j =>
              have hj' : zs[j]? = some y' := by simpa using hj
              rw [Nat.add_mul, Nat.one_mul, ← hlen, List.drop_append, List.drop_of_length_le (by omega), List.nil_append, show j * cs.length + cs.length - cs.length = j * cs.length by omega]
              have := n4 j y' hj'
              rwa [hlen]
      obtain ⟨news, n1, n2, n3, n4⟩ := gen ys 0 (fun j y hj => by obtain ⟨cs, hK, hcs⟩ := hget j y hj; exact ⟨cs, hK, fun i u hi => by simpa using hcs i u hi⟩)
      exact ⟨news, n1, fun j u hj => by simpa using n2 j u hj, n3, n4⟩
    obtain ⟨news, n1, n2, n3, n4⟩ := hex
    obtain ⟨v', w', hrun, h2, h3, _, h5⟩ := run_append_own_at (P := P) w base t ty e i z d.sz bytes ht hi hz hsize hby hzs hsz v xs.length cells ho ad ys.length c news n1 n2 n3 h63 hbytes hbase
    have hsame : ∀ b, S b ∧ some b ≠ v.ownBlock → b < w.heap.size → w'.heap[b]? = w.heap[b]? := fun b hb hl => h3.block b hl hb.2
    have hne : ∀ b, b < w.heap.size → some b ≠ v.ownBlock → some b ≠ v'.ownBlock := by
      intro b hb hv
      rcases h5 with h5 | h5
      · rw [h5]; exact hv
      · rw [h5]; intro e; injection e with e; omega
    refine ⟨v', w', hrun, ⟨?_, by rw [List.length_append]; exact hle1, cells ++ news, by rw [List.length_append]; exact h2, fun j x hj => ?_⟩, h3, h5⟩
    · intro k hk
      rcases h5 with h5 | h5
      · exact h0 k (h5 ▸ hk)
      · rw [h5] at hk
        injection hk with hk
        exact hnew k (by omega)
    · have hcl : cells.length = xs.length * d.sz := ho.1
      rcases Nat.lt_or_ge j xs.length with hj1 | hj1
      · rw [List.getElem?_append_left hj1] at hj
        have hle : j * d.sz + d.sz ≤ cells.length := by rw [hcl, ← Nat.succ_mul]; exact Nat.mul_le_mul_right _ hj1
        rw [List.drop_append_of_le_length (by omega), List.take_append_of_le_length (by rw [List.length_drop]; omega)]
        exact d.mono (fun b hb => ⟨hb.1.1, hne b hb.2 hb.1.2⟩) (d.move (w' := w') (fun b hb => hsame b hb.1 hb.2) (d.bound (hx j x hj)))
      · rw [List.getElem?_append_right hj1] at hj
        have hK := n4 _ x hj
        have hdrop : (cells ++ news).drop (j * d.sz) = news.drop ((j - xs.length) * d.sz) := by
          rw [List.drop_append, List.drop_of_length_le (by rw [hcl]; exact Nat.mul_le_mul_right _ hj1), List.nil_append, hcl, ← Nat.sub_mul]
        rw [hdrop]
        exact d.mono (fun b hb => ⟨hb.1.1, hne b hb.2 hb.1.2⟩) (d.move (w' := w') (fun b hb => hsame b hb.1 hb.2) (d.bound (hST _ _ hK)))
/-- A slice type t over the elements' type e. -/
structure ElemT (P : Program) (t e : TypeId) (z : Value) (size bytes : Nat) : Prop where
  under : P.underlying t = some (.slice e)
  info : (P.info? e).map (fun i => (i.zero, i.size, i.bytes)) = some (some z, size, bytes)
  cells : z.cells.size = size
  pos : 0 < size
  pos' : 1 ≤ bytes
theorem wpList_append_run {ops : Array Oper} {rest : List Oper} {o : Oper} {a : Act} {Q : Exit → Act → World → Prop} (hgd : o.guard = none) (s y : Operand) (t u : TypeId)
    (ho : o.op = .call { callee := .builtin .append, args := #[s, y], argTypes := #[t, u] }) (v x : Value) (hs : a.eval s = v) (hx : a.eval y = x) (v' : Value) (w' : World)
    (hr : (Builtin.append_ #[t, u] o.type #[v, x]).run P w = .ok v' w') (h : wpList P ops Q rest (a.put o.dst v') w') : wpList P ops Q (o :: rest) a w := by
  refine wpList_plain hgd fun K hK => ?_
  unfold Oper.wp execOp
  simp only [ho, resolve, invoke, builtin, Sem.run_bind, Sem.run_pure, Result.andThen_ok, List.map_toArray, List.map_cons, List.map_nil, hs, hx, hr]
  exact hK _ _ h
theorem wpList_append_Rs {ops : Array Oper} {rest : List Oper} {o : Oper} {a : Act} {Q : Exit → Act → World → Prop} {α : Type} (d : Kd α) (hgd : o.guard = none) (s y : Operand) (t e : TypeId) {z : Value} {bytes : Nat}
    (ho : o.op = .call { callee := .builtin .append, args := #[s, y], argTypes := #[t, t] }) (hE : ElemT P t e z d.sz bytes)
    (base : Nat) (v x : Value) (xs ys : List α) (S T : Nat → Prop) (hs : a.eval s = v) (hx : a.eval y = x) (hown : Ow d e w base S v xs) (hr : Rs d w T x ys)
    (hST : ∀ y cs, d.K w T y cs → d.K w (fun b => S b ∧ some b ≠ v.ownBlock) y cs) (hnew : ∀ b, w.heap.size ≤ b → S b)
    (hbytes : (xs.length + ys.length) * bytes ≤ 140737488355328) (hbase : base ≤ w.heap.size)
    (h : ∀ v' w', Ow d e w' base S v' (xs ++ ys) → w.grownBy w' v.ownBlock → (v'.ownBlock = v.ownBlock ∨ v'.ownBlock = some w.heap.size) → wpList P ops Q rest (a.put o.dst v') w') :
    wpList P ops Q (o :: rest) a w := by
  refine wpList_plain hgd fun K hK => ?_
  obtain ⟨i, hi, hz0, hz1, hz2⟩ := info_parts hE.info
  obtain ⟨v', w', hr, h2, h3, h4⟩ := run_append_Rs (P := P) (w := w) (d := d) base t o.type e i z bytes hE.under hi hz0 hz1 hz2 hE.cells hE.pos v x xs ys S T hown hr hST hnew hbytes hE.pos' hbase
  unfold Oper.wp execOp
  simp only [ho, resolve, invoke, builtin, Sem.run_bind, Sem.run_pure, Result.andThen_ok, List.map_toArray, List.map_cons, List.map_nil, hs, hx, hr]
  exact hK _ _ (h v' w' h2 h3 h4)
end

/-! ### rows of scalars that the call owns -/
section
variable {α : Type} {P : α → Prop} {enc : α → Value} {h1 : ∀ x, (enc x).oneCell' = true} {w w' : World} {S : Nat → Prop} {v : Value} {xs : List α} {base : Nat} {e : TypeId}
theorem Ow.srow (h : Ow (Kd.scalar P enc h1) e w base S v xs) : w.ownsRow base e 1 v xs.length (xs.map enc) ∧ ∀ x ∈ xs, P x := by
  obtain ⟨h0, _, cells, ho, hx⟩ := h
  have hl : cells.length = xs.length := by simpa [Kd.scalar] using ho.1
  have hc : cells = xs.map enc := by
    apply List.ext_getElem?
    intro j
    rcases Nat.lt_or_ge j xs.length with hj | hj
    · have hk := (hx j _ (List.getElem?_eq_getElem hj)).1
      have h2 : ((cells.drop (j * 1)).take 1)[0]? = some (enc xs[j]) := by
        have : ((cells.drop (j * 1)).take 1) = [enc xs[j]] := hk
        rw [this]; rfl
      rw [List.getElem?_take, List.getElem?_drop] at h2
      simp only [Nat.lt_one_iff, if_true, Nat.mul_one, Nat.add_zero] at h2
      rw [h2, List.getElem?_map, List.getElem?_eq_getElem hj]; rfl
    · rw [List.getElem?_eq_none (by omega), List.getElem?_eq_none (by rw [List.length_map]; omega)]
  subst hc
  refine ⟨ho, fun x hm => ?_⟩
  obtain ⟨j, hj, rfl⟩ := List.getElem_of_mem hm
  exact (hx j _ (List.getElem?_eq_getElem hj)).2
theorem Ow.of_srow (h : w.ownsRow base e 1 v xs.length (xs.map enc)) (hz : xs.length ≤ 140737488355328) (hS : ∀ k, v.ownBlock = some k → S k) (hP : ∀ x ∈ xs, P x) : Ow (Kd.scalar P enc h1) e w base S v xs := by
  refine ⟨hS, hz, _, h, fun j x hj => ⟨?_, hP x (List.mem_of_getElem? hj)⟩⟩
  have hjl := (List.getElem?_eq_some_iff.1 hj).1
  show ((xs.map enc).drop (j * 1)).take 1 = [enc x]
  rw [Nat.mul_one]
  apply List.ext_getElem?
  intro i
  rw [List.getElem?_take, List.getElem?_drop]
  cases i with
  | zero => simp [hj]
  | succ i => simp
theorem Ow.form {d : Kd α} (h : Ow d e w base S v xs) (hp : 0 < xs.length) : ∃ g cap, v = .slice (some ⟨g, 0, none⟩) xs.length cap ∧ base ≤ g ∧ g < w.heap.size ∧ xs.length ≤ cap ∧ S g := by
  have h0 := h.1
  obtain ⟨_, _, cells, ho, _⟩ := h
  obtain ⟨g, cap, rfl, hb, hl⟩ := ho.form hp
  refine ⟨g, cap, rfl, hb, hl, ?_, h0 g rfl⟩
  rcases ho.2 with ⟨h2, _⟩ | ⟨g', cap', cur, h2, _, _, h3, _⟩
  · simp at h2
  · simp only [Value.slice.injEq] at h2; omega
theorem Ow.scell {g cap : Nat} (h : Ow (Kd.scalar P enc h1) e w base S (.slice (some ⟨g, 0, none⟩) xs.length cap) xs) (i : Nat) (hi : i < xs.length) : w.cell? ⟨g, i, none⟩ = some (enc xs[i]) ∧ w.frozen? ⟨g, i, none⟩ = false := by
  have hr := h.srow.1
  refine ⟨?_, hr.frozenAt i⟩
  rw [hr.cellAt i (by omega), List.getElem?_map, List.getElem?_eq_getElem hi]; rfl
theorem Ow.sset {g cap : Nat} (h : Ow (Kd.scalar P enc h1) e w base S (.slice (some ⟨g, 0, none⟩) xs.length cap) xs) (i : Nat) (x : α) (hx : P x) :
    Ow (Kd.scalar P enc h1) e (w.setCell ⟨g, i, none⟩ (enc x)) base S (.slice (some ⟨g, 0, none⟩) xs.length cap) (xs.set i x) ∧ w.grownBy (w.setCell ⟨g, i, none⟩ (enc x)) (some g) := by
  have hr := h.srow
  obtain ⟨h2, h3⟩ := hr.1.stored i (enc x)
  refine ⟨Ow.of_srow (by rw [List.length_set, List.map_set]; exact h2) (by rw [List.length_set]; exact h.2.1) h.1 fun y hy => ?_, h3⟩
  rcases List.mem_or_eq_of_mem_set hy with h4 | h4
  · exact hr.2 y h4
  · exact h4 ▸ hx
theorem Ow.slit {g : Nat} (hb : w.heap[g]? = some (.cells (xs.map enc).toArray e (0, 0))) (hbase : base ≤ g) (hS : S g) (hl : xs.length ≤ 140737488355328) (hP : ∀ x ∈ xs, P x) :
    Ow (Kd.scalar P enc h1) e w base S (.slice (some ⟨g, 0, none⟩) xs.length xs.length) xs :=
  Ow.of_srow ⟨by simp, .inr ⟨g, xs.length, _, rfl, hbase, hb, Nat.le_refl _, by simp only [maxLen]; omega, by simp, by rw [List.take_of_length_le (by simp)]⟩⟩ hl (fun k hk => by simp [Value.ownBlock] at hk; exact hk ▸ hS) hP
end
def encB (b : UInt8) : Value := .int .u8 (b.toNat : Int)

/-- A number's lowest byte (a plain name: simp does not look into it). -/
def byt (k : Nat) : UInt8 := UInt8.ofNat k
theorem byt_toNat (k : Nat) : (byt k).toNat = k % 256 := UInt8.toNat_ofNat'
theorem byteval (k : Nat) (h : k < 256) : Value.int .u8 (k : Int) = encB (byt k) := by
  unfold encB; rw [byt_toNat, Nat.mod_eq_of_lt (by omega)]

theorem heap_new (W : World) (g : Nat) (hg : W.heap.size = g) (o : Obj) : (W.alloc o).heap[g]? = some o := by subst hg; exact heap_alloc_new W o
theorem Rs.one_byte (W : World) (g e : Nat) (hg : W.heap.size = g) (b : UInt8) : Rs kByte (W.alloc (.cells #[encB b] e)) (fun _ => True) (.slice (some ⟨g, 0, none⟩) 1 1) [b] :=
  ⟨_, 1, rfl, by simp, by omega, by simp, Row.bytes_of (heap_new W g hg _) trivial fun j x hj => by
    match j, hj with
    | 0, hj => simp at hj; subst hj; rfl⟩

/-! ### bytes and strings -/
section
variable {P : Program} {w w' : World} {S : Nat → Prop} {v : Value} {xs : List UInt8}
theorem Rs.to_string (h : Rs kByte w S v xs) {src dst e : TypeId} (hs : P.underlying src = some (.slice e)) (he : P.underlying e = some (.int .u8)) (hd : P.underlying dst = some .string) :
    (convert src dst v).run P w = .ok (.string ⟨xs.toArray⟩) w := by
  obtain ⟨A, c, rfl, _, _, _, hr⟩ := h
  rcases A with _ | ad
  · have : xs = [] := by
      rcases Nat.eq_zero_or_pos xs.length with h0 | h0
      · exact List.eq_nil_of_length_eq_zero h0
      · obtain ⟨ad, h, _⟩ := hr h0; cases h
    subst this
    exact run_convert_bytes_nil w src e hs he 0 c dst hd
  · exact run_convert_bytes_back w src dst e ad c xs hs he hd fun j hj => by
      obtain ⟨ad', h', hc⟩ := hr.byte hj
      injection h' with h'; subst h'; exact hc
theorem wpList_append_str {ops : Array Oper} {rest : List Oper} {o : Oper} {a : Act} {Q : Exit → Act → World → Prop} (hgd : o.guard = none) (s y : Operand) (t u e : TypeId)
    (ho : o.op = .call { callee := .builtin .append, args := #[s, y], argTypes := #[t, u] }) (hE : ElemT P t e (.int .u8 0) 1 1) (hu : P.underlying u = some .string)
    (base : Nat) (v : Value) (xs : List UInt8) (S : Nat → Prop) (str : ByteArray) (hs : a.eval s = v) (hx : a.eval y = .string str) (hown : Ow kByte e w base S v xs) (hS : ∀ b, base ≤ b → S b)
    (hbytes : xs.length + str.size ≤ 140737488355328) (hbase : base ≤ w.heap.size)
    (h : ∀ v' w', Ow kByte e w' base S v' (xs ++ str.data.toList) → w.grownBy w' v.ownBlock → wpList P ops Q rest (a.put o.dst v') w') :
    wpList P ops Q (o :: rest) a w := by
  obtain ⟨i, hi, hz0, hz1, hz2⟩ := info_parts hE.info
  have hlen : (xs ++ str.data.toList).length = xs.length + str.size := by rw [List.length_append]; rfl
  refine Lib.wpList_append_own_string (P := P) (w := w) hgd s y t u ho base e i hE.under hu hi hz0 hz1 hz2 v xs.length _ hs hown.srow.1 str hx (by simp only [maxLen]; omega) hbytes hbase ?_
  intro v' w' h2 h3 _
  refine h v' w' (Ow.of_srow ?_ (by omega) (fun k hk => hS k (ownsRow_base h2 k hk)) fun _ _ => trivial) h3
  rw [hlen, List.map_append]
  have : str.data.toList.map (fun b => Value.int .u8 (b.toNat : Int)) = Lib.strCells str := by simp [Lib.strCells]
  rw [this]
  exact h2
end
end Go.Proofs.Ytjjhmknlhfijjaa
set_option linter.unusedVariables false
set_option linter.unusedSimpArgs false
namespace Go.Proofs.Ytjjhmknlhfijjaa
open Go.RowKit

/-- A kind that every reading of the type t tells. -/
def Opens (P : Program) (t : TypeId) {α : Type} (d : Kd α) : Prop :=
  P.cellsOf t = d.sz ∧ ∀ (H : Type) (enc : TypeId × Value → H) (w : World) (base : Nat) (spare : Nat → Bool) (held : Bool) (fuel : Nat) (cs : List Value) (x : DataW H × List MemPlace),
    DataW.trod enc P w base spare held fuel t cs = some x → (∀ n ∈ x.1.weights P t, n ≤ reachBytes) → ∃ a : α, d.K w (· < w.heap.size) a cs

theorem opens_int {P : Program} {t : TypeId} (ht : P.underlying t = some (.int .i64)) (hc : P.cellsOf t = 1) : Opens P t kInt :=
  ⟨hc, fun _ _ _ _ _ _ _ _ _ h hw0 => by
    obtain ⟨n, rfl, _, hw⟩ := DataW.trod_int ht h
    exact ⟨n, rfl, bounds_i64 hw⟩⟩
theorem opens_bool {P : Program} {t : TypeId} (ht : P.underlying t = some .bool) (hc : P.cellsOf t = 1) : Opens P t kBool :=
  ⟨hc, fun _ _ _ _ _ _ _ _ _ h hw0 => by
    obtain ⟨b, rfl, _⟩ := DataW.trod_bool ht h
    exact ⟨b, rfl, trivial⟩⟩
theorem opens_byte {P : Program} {t : TypeId} (ht : P.underlying t = some (.int .u8)) (hc : P.cellsOf t = 1) : Opens P t kByte :=
  ⟨hc, fun _ _ _ _ _ _ _ _ _ h hw0 => by
    obtain ⟨n, rfl, _, hw⟩ := DataW.trod_int ht h
    have hb := bounds_u8 hw
    refine ⟨UInt8.ofNat n.toNat, ?_, trivial⟩
    show [Value.int .u8 n] = [Value.int .u8 ((UInt8.ofNat n.toNat).toNat : Int)]
    rw [UInt8.toNat_ofNat', Nat.mod_eq_of_lt (by omega)]
    congr 2
    omega⟩
theorem weightsAll_mem {H : Type} {P : Program} {e : TypeId} : ∀ (l : List (DataW H)) (d : DataW H), d ∈ l → ∀ n ∈ d.weights P e, n ∈ DataW.weightsAll P e l
  | x :: l, d, hd, n, hn => by
    simp only [DataW.weightsAll, List.mem_append]
    rcases List.mem_cons.1 hd with h | h
    · exact .inl (h ▸ hn)
    · exact .inr (weightsAll_mem l d h n hn)
theorem cells_get {w : World} {base n : Nat} {a : Addr} {cs : List Value} (h : w.cells? base a n = some cs) : base ≤ a.block ∧ cs.length = n ∧ ∀ i, i < n → w.cell? (a.add i) = cs[i]? := by
  unfold World.cells? at h
  split at h
  · rename_i hb
    exact ⟨hb, by simpa using mapM_some_length h, fun i hi => by simpa using mapM_some_get h i i (by simp [hi])⟩
  · cases h
theorem opens_row {P : Program} {t e : TypeId} {α : Type} {d : Kd α} (ht : P.underlying t = some (.slice e)) (hd : Opens P e d) (hsz : 0 < d.sz) (hby : 1 ≤ P.bytesOf e) {H : Type} {enc : TypeId × Value → H} {w : World} {base : Nat} {spare : Nat → Bool} {held : Bool} {fuel : Nat} {cs : List Value} {x : DataW H × List MemPlace}
    (h : DataW.trod enc P w base spare held fuel t cs = some x) (hwt : ∀ n ∈ x.1.weights P t, n ≤ reachBytes) : ∃ v xs, cs = [v] ∧ Rs d w (· < w.heap.size) v xs := by
  rcases DataW.trod_slice ht h with ⟨rfl, _⟩ | ⟨a, len, cap, elems, rest, n, _, rfl, hxe, hb, hl, hc, he, hx, hsp⟩
  · exact ⟨_, [], rfl, Rs.nil _ _ _⟩
  · clear hsp
    rw [hxe] at hwt
    simp only [DataW.weights, ht, List.mem_cons, List.mem_append, List.length_map] at hwt
    have hlen47 : len ≤ 140737488355328 := by
      have h1 := hwt _ (.inl rfl)
      have h2 : len * 1 ≤ (elems.length + rest.length) * P.bytesOf e := Nat.mul_le_mul (by omega) hby
      have h3 := reachBytes_lt
      omega
    have hwe : ∀ y ∈ elems, ∀ n ∈ y.1.weights P e, n ≤ reachBytes := fun y hy n hn => hwt n (.inr (.inl (weightsAll_mem _ _ (List.mem_map_of_mem hy) n hn)))
    clear hwt hxe
    rw [hd.1] at hx
    have hex : ∀ i : Nat, i < len → ∃ y : α, ∃ cs', w.cells? base (a.add (i * d.sz)) d.sz = some cs' ∧ d.K w (· < w.heap.size) y cs' := by
      intro i hi
      have h1 := hx i hi
      rw [List.getElem?_eq_getElem (by omega)] at h1
      obtain ⟨cs', h2, h3⟩ := Option.bind_eq_some_iff.1 h1
      obtain ⟨y, hy⟩ := hd.2 _ _ _ _ _ _ _ _ _ h3 (hwe _ (List.getElem_mem _))
      exact ⟨y, cs', h2, hy⟩
    obtain ⟨ys, hyl, hys⟩ : ∃ ys : List α, ys.length = len ∧ ∀ i (hi : i < ys.length), ∃ cs', w.cells? base (a.add (i * d.sz)) d.sz = some cs' ∧ d.K w (· < w.heap.size) ys[i] cs' := by
      clear hx he h hl hlen47 hwe
      induction len with
      | zero => exact ⟨[], rfl, fun i hi => by simp at hi⟩
      | succ m ih =>
        obtain ⟨ys, h1, h2⟩ := ih (fun i hi => hex i (by omega))
        obtain ⟨y, hy⟩ := hex m (by omega)
        refine ⟨ys ++ [y], by simp [h1], fun i hi => ?_⟩
        rcases Nat.lt_or_ge i ys.length with h3 | h3
        · rw [List.getElem_append_left h3]; exact h2 i h3
        · have : i = m := by simp at hi; omega
          subst this
          rw [List.getElem_append_right h3]
          simpa using hy
    refine ⟨_, ys, rfl, some a, cap, by rw [hyl], by omega, by simpa [maxLen] using hc, by omega, fun hp => ?_⟩
    have hblk : a.block < w.heap.size := by
      obtain ⟨cs', h1, h2⟩ := hys 0 hp
      obtain ⟨_, h4, h5⟩ := cells_get h1
      have h6 := h5 0 hsz
      rw [List.getElem?_eq_getElem (by omega)] at h6
      have := World.block_lt_of_cell? w _ h6
      simpa [addb] using this
    refine ⟨a, rfl, hblk, hblk, fun j y hj => ?_⟩
    obtain ⟨hj', rfl⟩ := List.getElem?_eq_some_iff.1 hj
    obtain ⟨cs', h1, h2⟩ := hys j hj'
    obtain ⟨_, h4, h5⟩ := cells_get h1
    refine ⟨cs', h2, fun i u hi => ?_⟩
    have hi' : i < d.sz := by have := (List.getElem?_eq_some_iff.1 hi).1; omega
    have := h5 i hi'
    rw [add_of_add] at this
    rw [this]; exact hi
theorem opens_slice {P : Program} {t e : TypeId} {α : Type} {d : Kd α} (ht : P.underlying t = some (.slice e)) (hc : P.cellsOf t = 1) (hd : Opens P e d) (hsz : 0 < d.sz) (hby : 1 ≤ P.bytesOf e) : Opens P t (kSlice d) :=
  ⟨hc, fun _ _ _ _ _ _ _ _ _ h hw0 => by
    obtain ⟨v, xs, rfl, hr⟩ := opens_row ht hd hsz hby h hw0
    exact ⟨xs, v, rfl, hr⟩⟩
/-- A parameter that is a slice. -/
theorem slice_arg {P : Program} {t e : TypeId} {α : Type} {d : Kd α} (ht : P.underlying t = some (.slice e)) (hd : Opens P e d) (hsz : 0 < d.sz) (hby : 1 ≤ P.bytesOf e) {H : Type} {enc : TypeId × Value → H} {w : World} {base : Nat} {spare : Nat → Bool} {held : Bool} {a : Option Addr} {len cap : Nat} {y : DataW H} {ps : List MemPlace}
    {ts : List TypeId} {ds : List (DataW H)} (hwt : (DataW.weightsEach P ts ds).all (· ≤ reachBytes) = true) (j : Nat) (hj : ts[j]? = some t) (hk : ds[j]? = some y)
    (h : DataW.Trod enc P w base spare held t (.slice a len cap) y ps) : ∃ xs, Rs d w (· < w.heap.size) (.slice a len cap) xs := by
  obtain ⟨fuel, hf⟩ := h
  obtain ⟨v, xs, h1, h2⟩ := opens_row ht hd hsz hby hf fun n hn => by
    have := List.all_eq_true.1 hwt _ (DataW.weights_mem_each hj hk n hn)
    simpa using this
  simp [Value.cells] at h1
  exact ⟨xs, h1 ▸ h2⟩
end Go.Proofs.Ytjjhmknlhfijjaa
set_option linter.unusedVariables false
set_option linter.unusedSimpArgs false
namespace Go.Proofs.Ytjjhmknlhfijjaa
open Go.RowKit

theorem tBytes : ElemT Try.prog 23 5 (.int .u8 0) 1 1 := ⟨Try.underlying23, by kernel_rfl, rfl, by omega, by omega⟩
theorem tRows : ElemT Try.prog 78 23 (.slice none 0 0) 1 24 := ⟨Try.underlying78, by kernel_rfl, rfl, by omega, by omega⟩
theorem oByte : Opens Try.prog 5 kByte := opens_byte Try.underlying5 (by kernel_rfl)
theorem oInt : Opens Try.prog 3 kInt := opens_int Try.underlying3 (by kernel_rfl)
theorem oBytes : Opens Try.prog 23 (kSlice kByte) := opens_slice Try.underlying23 (by kernel_rfl) oByte (by decide) (of_decide_eq_true (by kernel_rfl))
end Go.Proofs.Ytjjhmknlhfijjaa
set_option linter.unusedVariables false
set_option linter.unusedSimpArgs false
namespace Go.Proofs.Ytjjhmknlhfijjaa
open Go.RowKit

def Kd.unit : Kd Unit where
  sz := 0
  K := fun _ _ _ cs => cs = []
  len := fun h => by rw [h]; rfl
  one := fun h u hu => by rw [h] at hu; cases hu
  mono := fun _ h => h
  move := fun _ h => h
  bound := fun h => h
def Kd.pair {α β : Type} (a : Kd α) (b : Kd β) : Kd (α × β) where
  sz := a.sz + b.sz
  K := fun w S x cs => ∃ c1 c2, cs = c1 ++ c2 ∧ a.K w S x.1 c1 ∧ b.K w S x.2 c2
  len := by rintro w S x cs ⟨c1, c2, rfl, h1, h2⟩; rw [List.length_append, a.len h1, b.len h2]
  one := by
    rintro w S x cs ⟨c1, c2, rfl, h1, h2⟩ u hu
    rcases List.mem_append.1 hu with h | h
    · exact a.one h1 u h
    · exact b.one h2 u h
  mono := by rintro w S S' x cs h ⟨c1, c2, rfl, h1, h2⟩; exact ⟨c1, c2, rfl, a.mono h h1, b.mono h h2⟩
  move := by rintro w w' S x cs h ⟨c1, c2, rfl, h1, h2⟩; exact ⟨c1, c2, rfl, a.move h h1, b.move h h2⟩
  bound := by rintro w S x cs ⟨c1, c2, rfl, h1, h2⟩; exact ⟨c1, c2, rfl, a.bound h1, b.bound h2⟩

/-- Fields, from a cell on. -/
def OpensF (P : Program) (fs : List Field) (off : Nat) {α : Type} (d : Kd α) : Prop :=
  ∀ (H : Type) (enc : TypeId × Value → H) (w : World) (base : Nat) (spare : Nat → Bool) (held : Bool) (fuel : Nat) (cs : List Value) (xs : List (DataW H × List MemPlace)), xs.length = fs.length →
    (∀ (i : Nat) (f : Field), fs[i]? = some f → DataW.trod enc P w base spare held fuel f.type ((cs.drop f.offset).take (P.cellsOf f.type)) = xs[i]?) →
    (∀ n ∈ DataW.weightsEach P (fs.map (·.type)) (xs.map (·.1)), n ≤ reachBytes) → ∃ a : α, d.K w (· < w.heap.size) a ((cs.drop off).take d.sz)
theorem opensF_nil {P : Program} {off : Nat} : OpensF P [] off Kd.unit := fun _ _ _ _ _ _ _ _ _ _ _ _ => ⟨(), by simp [Kd.unit]⟩
theorem opensF_cons {P : Program} {f : Field} {fs : List Field} {off : Nat} {α β : Type} {a : Kd α} {b : Kd β} (ho : f.offset = off) (ha : Opens P f.type a) (hb : OpensF P fs (off + a.sz) b) : OpensF P (f :: fs) off (Kd.pair a b) := by
  intro H enc w base spare held fuel cs xs hl hf hw
  match xs, hl with
  | x :: xs, hl =>
    have h0 := hf 0 f rfl
    simp only [List.getElem?_cons_zero] at h0
    simp only [List.map_cons, DataW.weightsEach, List.mem_append] at hw
    obtain ⟨ya, hya⟩ := ha.2 H enc w base spare held fuel _ x h0 fun n hn => hw n (.inl hn)
    obtain ⟨yb, hyb⟩ := hb H enc w base spare held fuel cs xs (by simpa using hl) (fun i g hg => by
      have := hf (i + 1) g (by simpa using hg)
      simpa using this) fun n hn => hw n (.inr hn)
    refine ⟨(ya, yb), _, _, List.take_add, ?_, ?_⟩
    · rw [ha.1, ho] at hya; exact hya
    · rw [List.drop_drop]; exact hyb
theorem opens_struct {P : Program} {t : TypeId} {fs : Array Field} {α : Type} {d : Kd α} (ht : P.underlying t = some (.struct fs)) (hc : P.cellsOf t = d.sz) (hd : OpensF P fs.toList 0 d) : Opens P t d :=
  ⟨hc, fun H enc w base spare held fuel cs x h hw => by
    obtain ⟨xs, m, _, rfl, hl, hlen, hf⟩ := DataW.trod_struct ht h
    simp only [DataW.weights, ht] at hw
    obtain ⟨y, hy⟩ := hd H enc w base spare held m cs xs (by simpa using hlen) (fun i f hi => hf i f (by simpa using hi)) hw
    refine ⟨y, ?_⟩
    rw [List.drop_zero, List.take_of_length_le (by omega)] at hy
    exact hy⟩
/-- An ask: two ints. -/
def kAsk : Kd (Int × Int × Unit) := Kd.pair kInt (Kd.pair kInt Kd.unit)
theorem Row.ask {w : World} {S : Nat → Prop} {A : Option Addr} {xs : List (Int × Int × Unit)} (h : Row kAsk w S A xs) {j : Nat} (hj : j < xs.length) : ∃ ad, A = some ad ∧ w.cell? (ad.add (j * 2)) = some (.int .i64 xs[j].1) ∧ w.cell? (ad.add (j * 2 + 1)) = some (.int .i64 xs[j].2.1) ∧ I64 xs[j].1 ∧ I64 xs[j].2.1 := by
  obtain ⟨ad, cs, rfl, _, _, ⟨c1, c2, rfl, ⟨rfl, h1⟩, ⟨c3, c4, rfl, ⟨rfl, h2⟩, rfl⟩⟩, hc⟩ := h.get hj
  exact ⟨ad, rfl, by have := hc 0 _ rfl; simpa [kAsk, Kd.pair, kInt, Kd.scalar, Kd.unit] using this, by have := hc 1 _ rfl; simpa [kAsk, Kd.pair, kInt, Kd.scalar, Kd.unit] using this, h1, h2⟩
end Go.Proofs.Ytjjhmknlhfijjaa
set_option linter.unusedVariables false
set_option linter.unusedSimpArgs false
namespace Go.Proofs.Ytjjhmknlhfijjaa
open Go.RowKit
theorem agg_arg {P : Program} {t : TypeId} {fs : Array Field} {α : Type} {d : Kd α} {H : Type} {enc : TypeId × Value → H} {w : World} {r : Reach} {b0 base : Nat} {spare : Nat → Bool} {held : Bool} {v : Value} {y : DataW H} {ps : List MemPlace} (ht : P.underlying t = some (.struct fs)) (hv : Value.okWide P w r b0 t v) (hd : Opens P t d)
    {ts : List TypeId} {ds : List (DataW H)} (hwt : (DataW.weightsEach P ts ds).all (· ≤ reachBytes) = true) (j : Nat) (hj : ts[j]? = some t) (hk : ds[j]? = some y)
    (h : DataW.Trod enc P w base spare held t v y ps) : ∃ (cs : Array Value) (x : α), v = .agg cs ∧ d.K w (· < w.heap.size) x cs.toList := by
  obtain ⟨cs, rfl, _⟩ := Go.WideShapes.okWide_struct ht hv
  obtain ⟨fuel, hf⟩ := h
  obtain ⟨x, hx⟩ := hd.2 _ _ _ _ _ _ _ _ _ hf fun n hn => by
    have := List.all_eq_true.1 hwt _ (DataW.weights_mem_each hj hk n hn)
    simpa using this
  exact ⟨cs, x, rfl, hx⟩
end Go.Proofs.Ytjjhmknlhfijjaa
