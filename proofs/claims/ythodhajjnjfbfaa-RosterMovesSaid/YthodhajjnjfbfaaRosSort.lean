/-
  slices.Sort at []int, at a row of the call's own.
-/
import Derived.Test.YthodhajjnjfbfaaShelf
import Derived.Test.YthodhajjnjfbfaaRosLaw
import Derived.Test.YthodhajjnjfbfaaUpd
set_option linter.unusedVariables false
set_option linter.unusedSimpArgs false
namespace Go.Proofs.Ythodhajjnjfbfaa
open Go.RowKit

theorem merge_isort (xs : List Int) : (xs.mergeSort fun x y => decide (x ≤ y)) = isort xs := by
  refine srt_isort ?_ (List.mergeSort_perm xs _)
  have := List.pairwise_mergeSort (le := fun x y : Int => decide (x ≤ y)) (by intro a b c; simp; omega) (by intro a b; simp; omega) xs
  simpa [Srt] using this

theorem heap_put (w : World) (g : Nat) (cur : Array Value) (t : TypeId) (fz : Nat × Nat) (h : w.heap[g]? = some (.cells cur t fz)) (n : Nat) (d : Array Int) (os : Array Obj) :
    (Sort.grow (Sort.putRow (Value.int .i64) (Sort.ahead w n) g 0 d) os).heap[g]? = some (.cells (Sort.putCells (Value.int .i64) 0 d cur) t fz) := by
  have hg := (Array.getElem?_eq_some_iff.1 h).1
  show (w.heap.modify g _ ++ os)[g]? = _
  rw [Array.getElem?_append_left (by simpa using hg), Array.getElem?_modify, if_pos rfl, h]
  rfl
theorem heap_put_other (w : World) (g b : Nat) (n : Nat) (d : Array Int) (os : Array Obj) (hb : b < w.heap.size) (hne : b ≠ g) :
    (Sort.grow (Sort.putRow (Value.int .i64) (Sort.ahead w n) g 0 d) os).heap[b]? = w.heap[b]? := by
  show (w.heap.modify g _ ++ os)[b]? = _
  rw [Array.getElem?_append_left (by simpa using hb), Array.getElem?_modify, if_neg (Ne.symm hne)]
theorem put_take (cur : Array Value) (xs ys : List Int) (hl : ys.length = xs.length) (hc : xs.length ≤ cur.size) : (Sort.putCells (Value.int .i64) 0 ys.toArray cur).toList.take (xs.length * 1) = ys.map (Value.int .i64) := by
  apply List.ext_getElem?
  intro j
  rw [List.getElem?_take, Nat.mul_one]
  by_cases hj : j < xs.length
  · rw [if_pos hj, Array.getElem?_toList]
    unfold Sort.putCells
    rw [Array.getElem?_mapIdx, Array.getElem?_eq_getElem (by omega), List.getElem?_map, List.getElem?_eq_getElem (by omega)]
    simp only [Option.map_some]
    rw [if_pos (by simp; omega)]
    congr 2
    rw [Nat.sub_zero, getElem!_pos _ j (by simp; omega)]
    simp
  · rw [if_neg hj, List.getElem?_map, List.getElem?_eq_none (by omega)]
    rfl

theorem Sort_calls (w : World) (base : Nat) (S : Nat → Prop) (v : Value) (xs : List Int) (ho : Ow kInt 3 w base S v xs) (hp : 0 < xs.length) :
    Calls Try.prog 33 #[v] w fun e w' => e = .returned (.tuple #[]) ∧ Ow kInt 3 w' base S v (isort xs) ∧ Upd (fun b => v.ownBlock = some b) w w' := by
  obtain ⟨g, cap, rfl, hb, hg, hcap, hS⟩ := ho.form hp
  have hrow := ho.srow
  have hz := ho.2.1
  have hH : Sort.Holds (Value.int .i64) w g 0 xs.toArray := fun j hj => by
    have hj' : j < xs.length := by simpa using hj
    have := Ow.scell ho j hj'
    rw [Nat.zero_add, getElem!_pos _ j hj]
    simpa using this
  refine (Try.slices_Sort_int g 0 cap xs w hH hg (by omega)).mono ?_
  rintro e w' ⟨rfl, n, os, rfl⟩
  rw [merge_isort]
  have hil := isort_len xs
  refine ⟨rfl, ?_, ?_⟩
  · rw [← hil]
    obtain ⟨⟨h1, h2⟩, h3⟩ := hrow
    rcases h2 with ⟨h2, _⟩ | ⟨g', cap', cur, h2, hb', hh, hn, hm, hs, ht⟩
    · simp at h2
    · simp only [Value.slice.injEq, Option.some.injEq, Addr.mk.injEq] at h2
      obtain ⟨⟨rfl, _, _⟩, _, rfl⟩ := h2
      refine Ow.of_srow ⟨by simp, .inr ⟨g, cap, _, rfl, hb', heap_put w g cur _ _ hh n _ os, by omega, hm, ?_, ?_⟩⟩ (by omega) (fun k hk => by simp [Value.ownBlock] at hk; exact hk ▸ hS) (fun x hx => h3 x ((isort_perm xs).mem_iff.1 hx))
      · rw [← hs]; simp [Sort.putCells]
      · have := put_take cur xs (isort xs) hil (by rw [hs]; omega)
        rw [hil]
        exact this
  · refine ⟨rfl, rfl, rfl, ?_, fun b hbl hne => ?_⟩
    · show w.heap.size ≤ (w.heap.modify g _ ++ os).size
      simp
    · refine heap_put_other w g b n _ os hbl fun e => hne ?_
      rw [e]; rfl
end Go.Proofs.Ythodhajjnjfbfaa
