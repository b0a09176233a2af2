/-
  What turned: blocks of S alone.
-/
import Derived.Test.YthodhajjnjfbfaaKit
set_option linter.unusedVariables false
set_option linter.unusedSimpArgs false
namespace Go.Proofs.Ythodhajjnjfbfaa
open Go.RowKit

/-- Blocks that were there and are none of S have not turned. -/
structure Upd (S : Nat → Prop) (w w' : World) : Prop where
  os : w'.os = w.os
  tape : w'.tape = w.tape
  output : w'.output = w.output
  size : w.heap.size ≤ w'.heap.size
  block : ∀ k, k < w.heap.size → ¬ S k → w'.heap[k]? = w.heap[k]?
section
variable {S T : Nat → Prop} {a b c w w' : World}
theorem Upd.refl (S : Nat → Prop) (w : World) : Upd S w w := ⟨rfl, rfl, rfl, Nat.le_refl _, fun _ _ _ => rfl⟩
theorem Upd.trans (h : Upd S a b) (k : Upd S b c) : Upd S a c :=
  ⟨k.os.trans h.os, k.tape.trans h.tape, k.output.trans h.output, Nat.le_trans h.size k.size, fun i hi hn => (k.block i (Nat.lt_of_lt_of_le hi h.size) hn).trans (h.block i hi hn)⟩
theorem Upd.mono (h : Upd S a b) (hS : ∀ k, S k → T k) : Upd T a b := ⟨h.os, h.tape, h.output, h.size, fun k hk hn => h.block k hk fun hs => hn (hS k hs)⟩
theorem Ext.upd (h : Ext a b) (S : Nat → Prop) : Upd S a b := ⟨h.os, h.tape, h.output, h.size, fun k hk _ => h.block k hk⟩
theorem Upd.ext (h : Upd S b c) (he : Ext a b) (hS : ∀ k, S k → a.heap.size ≤ k) : Ext a c :=
  Below.trans he ⟨h.os, h.tape, h.output, h.size, fun k hk => h.block k (Nat.lt_of_lt_of_le hk he.size) fun hs => by have := hS k hs; omega⟩
theorem Upd.set (h : Upd S a b) {g i : Nat} (hg : S g ∨ a.heap.size ≤ g) (u : Value) : Upd S a (b.setCell ⟨g, i, none⟩ u) :=
  ⟨h.os, h.tape, h.output, by simpa [World.setCell] using h.size, fun k hk hn => (Below.heap_setCell b ⟨g, i, none⟩ u k (by
    intro e
    have e' : k = g := e
    rcases hg with hg | hg
    · exact hn (e' ▸ hg)
    · omega)).trans (h.block k hk hn)⟩
theorem Upd.drew (h : Upd S a b) : Upd S a b.drew := ⟨h.os, h.tape, h.output, h.size, h.block⟩
theorem Upd.drewN (h : Upd S a b) (n : Nat) : Upd S a (b.drewN n) := ⟨h.os, h.tape, h.output, h.size, h.block⟩
theorem Upd.alloc (h : Upd S a b) (o : Obj) : Upd S a (b.alloc o) :=
  ⟨h.os, h.tape, h.output, Nat.le_trans h.size (by simp), fun k hk hn => (Below.heap_alloc b o k (Nat.lt_of_lt_of_le hk h.size)).trans (h.block k hk hn)⟩
theorem Upd.grown (h : Upd S a b) {row : Option Nat} (hg : b.grownBy c row) (hr : ∀ k, row = some k → S k ∨ a.heap.size ≤ k) : Upd S a c :=
  ⟨hg.os.trans h.os, hg.tape.trans h.tape, hg.output.trans h.output, Nat.le_trans h.size hg.size, fun k hk hn =>
    (hg.block k (Nat.lt_of_lt_of_le hk h.size) fun e => (hr k e.symm).elim hn fun h2 => by omega).trans (h.block k hk hn)⟩
theorem Upd.le (h : Upd S a b) : a.heap.size ≤ b.heap.size := h.size
variable {α : Type} {d : Kd α} {v : Value} {xs : List α} {base : Nat} {e : TypeId}
theorem Rs.upd (h : Rs d w T v xs) (hu : Upd S w w') (hd : ∀ b, T b → ¬ S b) : Rs d w' T v xs := h.keep fun b hb hl => hu.block b hl (hd b hb)
theorem Ow.upd (h : Ow d e w base T v xs) (hu : Upd S w w') (hd : ∀ b, T b → ¬ S b) : Ow d e w' base T v xs := h.keep fun b hb hl => hu.block b hl (hd b hb)
theorem blk_upd {g : Nat} {o : Obj} (h : w.heap[g]? = some o) (hu : Upd S w w') (hg : ¬ S g) : w'.heap[g]? = some o :=
  (hu.block g (Array.getElem?_eq_some_iff.1 h).1 hg).trans h
theorem blk_ext {g : Nat} {o : Obj} (h : w.heap[g]? = some o) (hu : Ext w w') : w'.heap[g]? = some o :=
  (hu.block g (Array.getElem?_eq_some_iff.1 h).1).trans h
end
end Go.Proofs.Ythodhajjnjfbfaa
