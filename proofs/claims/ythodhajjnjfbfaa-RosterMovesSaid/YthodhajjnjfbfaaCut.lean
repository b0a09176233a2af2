/-
  Slicing as equations for every world.
-/
import Derived.Test.YthodhajjnjfbfaaKit
import Derived.WalkSpells
set_option linter.unusedVariables false
set_option linter.unusedSimpArgs false
namespace Go.Proofs.Ythodhajjnjfbfaa
open Go.RowKit

/-- The model's words for what is left of a slice. -/
def restA (A : Option Addr) (c k : Nat) : Option Addr := if c = k then A else Option.map (fun x => x.add k) A
/-- A part of a slice. -/
def partV (A : Option Addr) (c l h : Nat) : Value := .slice (restA A c l) (h - l) (c - l)
theorem partV_eq (A : Option Addr) (c l h : Nat) : partV A c l h = .slice (restA A c l) (h - l) (c - l) := rfl

section
variable {P : Program} {t e : TypeId} {z : Value} {bytes : Nat}
theorem slice_from (hE : ElemT P t e z 1 bytes) (A : Option Addr) (len cap : Nat) (k : IntKind) (l : Int) (L : Nat) (hl : l = (L : Int)) (h : L ≤ len) (W : World) :
    (Instr.sliceAt t (.slice A len cap) (some (.int k l)) none none).run P W = .ok (partV A cap L len) W := by
  obtain ⟨i, hi, hz0, hz1, hz2⟩ := info_parts hE.info
  have ht : P.underlying t = some (.slice (P.elem t)) := by rw [hE.under]; simp [Program.elem, hE.under]
  have he : P.elem t = e := by simp [Program.elem, hE.under]
  subst hl
  rw [run_sliceAt_slice _ _ _ _ _ _ ht, run_slice_l _ _ _ _ _ ht _ _ (by omega) (by omega), he]
  simp [sizeOf, typeInfo, hi, hz1, sliced, partV, restA]
theorem slice_to (hE : ElemT P t e z 1 bytes) (A : Option Addr) (len cap : Nat) (k : IntKind) (h : Int) (H : Nat) (hh : h = (H : Int)) (hc : H ≤ cap) (W : World) :
    (Instr.sliceAt t (.slice A len cap) none (some (.int k h)) none).run P W = .ok (partV A cap 0 H) W := by
  obtain ⟨i, hi, hz0, hz1, hz2⟩ := info_parts hE.info
  have ht : P.underlying t = some (.slice (P.elem t)) := by rw [hE.under]; simp [Program.elem, hE.under]
  have he : P.elem t = e := by simp [Program.elem, hE.under]
  subst hh
  rw [run_sliceAt_slice _ _ _ _ _ _ ht, run_slice_h _ _ _ _ _ ht _ _ (by omega) (by omega), he]
  simp [sizeOf, typeInfo, hi, hz1, sliced, partV, restA]
theorem slice_of (hE : ElemT P t e z 1 bytes) (A : Option Addr) (len cap : Nat) (k k' : IntKind) (l h : Int) (L H : Nat) (hl : l = (L : Int)) (hh : h = (H : Int)) (hlh : L ≤ H) (hc : H ≤ cap) (W : World) :
    (Instr.sliceAt t (.slice A len cap) (some (.int k l)) (some (.int k' h)) none).run P W = .ok (partV A cap L H) W := by
  obtain ⟨i, hi, hz0, hz1, hz2⟩ := info_parts hE.info
  have ht : P.underlying t = some (.slice (P.elem t)) := by rw [hE.under]; simp [Program.elem, hE.under]
  have he : P.elem t = e := by simp [Program.elem, hE.under]
  subst hl; subst hh
  rw [run_sliceAt_slice _ _ _ _ _ _ ht, run_slice_lh _ _ _ _ _ ht _ _ _ _ (by omega) (by omega) (by omega), he]
  simp [sizeOf, typeInfo, hi, hz1, sliced, partV, restA]
end

theorem Rs.part {α : Type} {d : Kd α} {w : World} {S : Nat → Prop} {A : Option Addr} {m c l h : Nat} {xs : List α} (hr : Rs d w S (.slice A m c) xs) (hd : d.sz = 1) (hl : l ≤ h) (hh : h ≤ xs.length) :
    Rs d w S (partV A c l h) ((xs.drop l).take (h - l)) := by
  obtain ⟨A', c', he, hlen, hc, hz, hrow⟩ := hr
  injection he with e1 e2 e3
  subst e1; subst e3
  have e : ((xs.drop l).take (h - l)).length = h - l := by rw [List.length_take, List.length_drop]; omega
  refine ⟨_, c - l, by rw [e]; rfl, by rw [e]; omega, by omega, by rw [e]; omega, ?_⟩
  unfold restA
  split
  · exact Row.empty (by rw [e]; omega)
  · have := (hrow.drop l).take (h - l)
    rw [hd, Nat.mul_one] at this
    exact this
theorem Rs.from_ {α : Type} {d : Kd α} {w : World} {S : Nat → Prop} {A : Option Addr} {m c l : Nat} {xs : List α} (hr : Rs d w S (.slice A m c) xs) (hd : d.sz = 1) (hl : l ≤ xs.length) :
    Rs d w S (partV A c l xs.length) (xs.drop l) := by
  have := hr.part hd hl (Nat.le_refl _)
  rwa [List.take_of_length_le (by rw [List.length_drop]; omega)] at this
theorem Rs.to_ {α : Type} {d : Kd α} {w : World} {S : Nat → Prop} {A : Option Addr} {m c h : Nat} {xs : List α} (hr : Rs d w S (.slice A m c) xs) (hd : d.sz = 1) (hh : h ≤ xs.length) :
    Rs d w S (partV A c 0 h) (xs.take h) := by
  have := hr.part hd (Nat.zero_le h) hh
  simpa using this
/-- The same slice, its form laid open. -/
theorem Rs.shape {α : Type} {d : Kd α} {w : World} {S : Nat → Prop} {A : Option Addr} {m c : Nat} {xs : List α} (hr : Rs d w S (.slice A m c) xs) : m = xs.length ∧ xs.length ≤ c ∧ c ≤ 9223372036854775807 ∧ xs.length ≤ 140737488355328 ∧ Row d w S A xs := by
  obtain ⟨A', c', he, hlen, hc, hz, hrow⟩ := hr
  injection he with e1 e2 e3
  subst e1; subst e3
  exact ⟨e2, hlen, hc, hz, hrow⟩
end Go.Proofs.Ythodhajjnjfbfaa
