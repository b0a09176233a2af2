/-
  append in a region that draws its order.
-/
import Derived.Test.YthodhajjnjfbfaaKit
import Derived.Deep.RegionLaw
set_option linter.unusedVariables false
set_option linter.unusedSimpArgs false
namespace Go.Proofs.Ythodhajjnjfbfaa
open Go.RowKit

theorem step_append_Rs {P : Program} {ops : Array Oper} {o : Oper} {a : Act} {w : World} {K : Act → World → Prop} {Q : Exit → Act → World → Prop} {E : Prop} {α : Type} (d : Kd α) (D : Nat) (hD : o.dst = some D) (hgd : o.guard = none) (s y : Operand) (t e : TypeId) {z : Value} {bytes : Nat}
    (ho : o.op = .call { callee := .builtin .append, args := #[s, y], argTypes := #[t, t] }) (hE : ElemT P t e z d.sz bytes)
    (base : Nat) (v x : Value) (xs ys : List α) (S T : Nat → Prop) (hs : a.eval s = v) (hx : a.eval y = x) (hown : Ow d e w base S v xs) (hr : Rs d w T x ys)
    (hST : ∀ y cs, d.K w T y cs → d.K w (fun b => S b ∧ some b ≠ v.ownBlock) y cs) (hnew : ∀ b, w.heap.size ≤ b → S b)
    (hbytes : (xs.length + ys.length) * bytes ≤ 140737488355328) (hbase : base ≤ w.heap.size)
    (h : ∀ v' w', Ow d e w' base S v' (xs ++ ys) → w.grownBy w' v.ownBlock → (v'.ownBlock = v.ownBlock ∨ v'.ownBlock = some w.heap.size) → K (a.put (some D) v') w') :
    if Region.wanted o (yielded ops a.tmps) = true then Oper.wp P o a w K Q else E := by
  have hw : Region.wanted o (yielded ops a.tmps) = true := by simp [Region.wanted, hgd]
  rw [if_pos hw]
  obtain ⟨i, hi, hz0, hz1, hz2⟩ := info_parts hE.info
  obtain ⟨v', w', hr, h2, h3, h4⟩ := run_append_Rs (P := P) (w := w) (d := d) base t o.type e i z bytes hE.under hi hz0 hz1 hz2 hE.cells hE.pos v x xs ys S T hown hr hST hnew hbytes hE.pos' hbase
  unfold Oper.wp execOp
  simp only [ho, resolve, invoke, builtin, Sem.run_bind, Sem.run_pure, Result.andThen_ok, List.map_toArray, List.map_cons, List.map_nil, hs, hx, hr]
  show K (a.put o.dst v') w'
  rw [hD]
  exact h v' w' h2 h3 h4
end Go.Proofs.Ythodhajjnjfbfaa
