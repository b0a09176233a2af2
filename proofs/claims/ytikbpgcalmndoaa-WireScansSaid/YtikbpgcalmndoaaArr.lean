/-
  The array [4]uint8: loading, comparing.
-/
import Derived.Test.YtikbpgcalmndoaaRecord
import Derived.Test.YtikbpgcalmndoaaPart
import Derived.Test.YtikbpgcalmndoaaScanNum
import Derived.Laws.StructEq
set_option linter.unusedVariables false
set_option linter.unusedSimpArgs false
namespace Go.Proofs.Ytikbpgcalmndoaa
open Go.RowKit

theorem arr4_load {W : World} {S : Nat → Prop} {A : Option Addr} {c : Nat} {xs : List UInt8} (hr : Rs kByte W S (.slice A 4 c) xs) :
    (Instr.loadAt 74 (.pointer A)).run Try.prog W = .ok (.agg (xs.map encB).toArray) W := by
  obtain ⟨h4, _, _, _, hrow⟩ := hr.shape
  obtain ⟨ad, rfl, _⟩ := hrow.byte (j := 0) (by omega)
  have hl := run_loadCells_list (P := Try.prog) W ad (xs.map encB) (fun j v hv => by
    rw [List.getElem?_map] at hv
    have hj : j < xs.length := by
      rcases Nat.lt_or_ge j xs.length with h | h
      · exact h
      · rw [List.getElem?_eq_none h] at hv; cases hv
    obtain ⟨ad', he, hc⟩ := hrow.byte hj
    injection he with he; subst he
    rw [List.getElem?_eq_getElem hj] at hv
    rw [hc]; exact hv)
  rw [List.length_map, ← h4] at hl
  have hi : (Try.prog.info? 74).map (·.size) = some 4 := by kernel_rfl
  cases hq : Try.prog.info? 74 with
  | none => simp [hq] at hi
  | some i =>
    have hs : i.size = 4 := by simpa [hq] using hi
    have hagg : (isAgg 74).run Try.prog W = .ok true W := by
      unfold isAgg
      rw [Sem.run_bind, run_underlying tArr W]
      rfl
    simp only [Instr.loadAt, Instr.sureAddr, Sem.run_bind, Sem.run_pure, Result.andThen_ok, loadVar, hagg, if_true, sizeOf, typeInfo]
    simp [hq, hs, hl]

theorem arr4_cells {W : World} {S : Nat → Prop} {ad : Addr} {c : Nat} {y0 y1 y2 y3 : UInt8} (hr : Rs kByte W S (.slice (some ad) 4 c) [y0, y1, y2, y3]) :
    W.cell? ad = some (encB y0) ∧ W.cell? ⟨ad.block, ad.off + 1, none⟩ = some (encB y1) ∧ W.cell? ⟨ad.block, ad.off + 2, none⟩ = some (encB y2) ∧ W.cell? ⟨ad.block, ad.off + 3, none⟩ = some (encB y3) := by
  obtain ⟨_, _, _, _, hrow⟩ := hr.shape
  have h : ∀ j (hj : j < 4), W.cell? (ad.add j) = some (encB ([y0, y1, y2, y3][j])) := fun j hj => by
    obtain ⟨ad', he, hc⟩ := hrow.byte (j := j) hj
    injection he with he; subst he
    exact hc
  refine ⟨?_, h 1 (by omega), h 2 (by omega), h 3 (by omega)⟩
  have := h 0 (by omega)
  rwa [add_zero_addr] at this
theorem arr4_equal (W : World) (x0 x1 x2 x3 y0 y1 y2 y3 : UInt8) :
    (Op.equal 74 (.agg #[encB x0, encB x1, encB x2, encB x3]) (.agg #[encB y0, encB y1, encB y2, encB y3])).run Try.prog W = .ok (decide ([x0, x1, x2, x3] = [y0, y1, y2, y3])) W := by
  obtain ⟨i, hi, hz0, hz1, hz2⟩ := info_parts tBytes.info
  have h1 : ∀ a b : UInt8, ∀ d, (Op.equalIn (d + 1) 5 (encB a) (encB b)).run Try.prog W = .ok (decide (a = b)) W := by
    intro a b d
    unfold encB
    rw [run_equalIn_int W d _ _ _ _ _ tByte]
    congr 1
    rw [Bool.eq_iff_iff, beq_iff_eq, decide_eq_true_iff]
    constructor
    · intro h; exact UInt8.toNat.inj (by omega)
    · intro h; rw [h]
  have hp : ∀ (xs : Array Value) (j : Nat) (b : UInt8), xs[j]? = some (encB b) → (part 5 xs j).run Try.prog W = .ok (encB b) W := by
    intro xs j b h
    simp [part, run_underlying tByte, isAgg, h]
  unfold Op.equal Op.maxDepth
  unfold Op.equalIn
  rw [Sem.run_bind, run_underlying tArr W]
  have hr : List.range' 0 4 = [0, 1, 2, 3] := rfl
  have h2 := fun a b => h1 a b 9998
  simp only [Nat.reduceAdd] at h2
  have p0 := hp #[encB x0, encB x1, encB x2, encB x3] 0 x0 rfl
  have p1 := hp #[encB x0, encB x1, encB x2, encB x3] 1 x1 rfl
  have p2 := hp #[encB x0, encB x1, encB x2, encB x3] 2 x2 rfl
  have p3 := hp #[encB x0, encB x1, encB x2, encB x3] 3 x3 rfl
  have q0 := hp #[encB y0, encB y1, encB y2, encB y3] 0 y0 rfl
  have q1 := hp #[encB y0, encB y1, encB y2, encB y3] 1 y1 rfl
  have q2 := hp #[encB y0, encB y1, encB y2, encB y3] 2 y2 rfl
  have q3 := hp #[encB y0, encB y1, encB y2, encB y3] 3 y3 rfl
  clear hp h1
  simp [sizeOf, typeInfo, hi, hz1, hr, p0, p1, p2, p3, q0, q1, q2, q3, h2]
  clear p0 p1 p2 p3 q0 q1 q2 q3 h2
  by_cases e0 : x0 = y0 <;> by_cases e1 : x1 = y1 <;> by_cases e2 : x2 = y2 <;> by_cases e3 : x3 = y3 <;> simp [e0, e1, e2, e3]
theorem arr4_at (A : Option Addr) (c : Nat) (W : World) : (Instr.arrayAt 74 (.slice A 4 c)).run Try.prog W = .ok (.pointer A) W := by
  simp [Instr.arrayAt, run_underlying tArr]
theorem arr4_neq (W : World) (x0 x1 x2 x3 y0 y1 y2 y3 : UInt8) :
    (binOp .neq 74 (.agg #[encB x0, encB x1, encB x2, encB x3]) (.agg #[encB y0, encB y1, encB y2, encB y3])).run Try.prog W = .ok (.bool (!decide ([x0, x1, x2, x3] = [y0, y1, y2, y3]))) W := by
  have h := arr4_equal W x0 x1 x2 x3 y0 y1 y2 y3
  simp only [binOp, Sem.run_bind, h, Result.andThen_ok, Sem.run_pure]
end Go.Proofs.Ytikbpgcalmndoaa
