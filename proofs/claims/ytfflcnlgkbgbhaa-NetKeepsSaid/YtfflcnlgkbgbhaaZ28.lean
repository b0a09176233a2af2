/-
  Texts of this claim, put together: KeepKit.
-/
import Derived.Test.YtfflcnlgkbgbhaaZ25
import Derived.Test.YtfflcnlgkbgbhaaZ12
import Derived.Test.YtfflcnlgkbgbhaaZ24
import Derived.Test.YtfflcnlgkbgbhaaZ8
set_option linter.unusedVariables false
set_option linter.unusedSimpArgs false
namespace Go.Proofs.Ytfflcnlgkbgbhaa
open Go.RowKit

/-- The numbers rise. -/
def Inc (s : BagS) : Prop := s.ids.Pairwise (· < ·)
theorem inc0 : Inc bag0 := List.Pairwise.nil
theorem step_inc {a : BagS × Nat} (h : BagOk a.1) (hi : Inc a.1) (m : MsgS) : Inc (BagS.step a m).1 := by
  unfold BagS.step
  split
  · exact List.pairwise_append.2 ⟨hi, List.pairwise_singleton _ _, fun x hx y hy => by
      rw [List.mem_singleton.1 hy]
      have := h.ids x hx
      omega⟩
  · exact hi
theorem lose_inc {s : BagS} (hi : Inc s) (id : Int) : Inc (s.lose id).1 := by
  unfold BagS.lose
  split
  · exact hi
  · exact List.Pairwise.sublist (List.eraseIdx_sublist _ _) hi
theorem send1 (s : BagS) (m : MsgS) : s.send [m] = BagS.step (s, 0) m := rfl
theorem double_inc {s : BagS} (h : BagOk s) (hi : Inc s) (id : Int) : Inc (s.double id).1 := by
  unfold BagS.double
  split
  · exact hi
  · exact step_inc (a := (s, 0)) h hi _
theorem idxI_get : ∀ {l : List Int} {n : Int} {i : Nat}, idxI l n = (i : Int) → ∀ hi : i < l.length, l[i] = n
  | [], _, _, _, hi => by simp at hi
  | x :: l, n, i, h, hi => by
    simp only [idxI] at h
    by_cases hx : n = x
    · rw [if_pos hx] at h
      obtain rfl : i = 0 := by omega
      simp [hx]
    · rw [if_neg hx] at h
      by_cases hneg : idxI l n < 0
      · rw [if_pos hneg] at h; omega
      · rw [if_neg hneg] at h
        obtain ⟨j, rfl⟩ : ∃ j, i = j + 1 := ⟨i - 1, by omega⟩
        have := idxI_get (l := l) (n := n) (i := j) (by omega) (by simpa using hi)
        simpa using this
theorem idx_self {l : List Int} (h : l.Pairwise (· < ·)) {i : Nat} (hi : i < l.length) : idxI l l[i] = (i : Int) := by
  have hm : hasB l l[i] = true := (idxI_has l l[i]).1 ((idxI_has l l[i]).2 (by
    unfold hasB
    simp))
  have h0 := (idxI_has l l[i]).2 hm
  rcases idxI_cases l l[i] with h1 | ⟨j, h1, hj⟩
  · omega
  · rw [h1]
    have e : l[j] = l[i] := idxI_get h1 hj
    rcases Nat.lt_trichotomy i j with h2 | h2 | h2
    · have := List.pairwise_iff_getElem.1 h i j hi hj h2; omega
    · omega
    · have := List.pairwise_iff_getElem.1 h j i hj hi h2; omega

theorem wpF_step3 {P : Program} {md : Region.Mode} {ops : Array Oper} {Q : Exit → Act → World → Prop} {S0 S1 : World → Prop} {f : Nat} {i j k : Nat} {o o' o'' : Oper} {tl tl' tl'' : List Oper} {fuel : Nat} {listed : Array Bool} {a : Act} {w : World} (hr : Region.ready md ops listed = [i, j, k]) (ho : ops.toList.drop i = o :: tl) (ho' : ops.toList.drop j = o' :: tl') (ho'' : ops.toList.drop k = o'' :: tl'')
    (h : ∀ K' : Act → World → Prop, Hid (∀ a w, S0 w → ((listed.setIfInBounds i true).getD f true = false → S1 w) → wpF P md ops Q S0 S1 f fuel (listed.setIfInBounds i true) a w → K' a w) → if Region.wanted o (yielded ops a.tmps) = true then Oper.wp P o a w K' Q else K' (a.put o.dst undef) w)
    (h' : ∀ K' : Act → World → Prop, Hid (∀ a w, S0 w → ((listed.setIfInBounds j true).getD f true = false → S1 w) → wpF P md ops Q S0 S1 f fuel (listed.setIfInBounds j true) a w → K' a w) → if Region.wanted o' (yielded ops a.tmps) = true then Oper.wp P o' a w K' Q else K' (a.put o'.dst undef) w)
    (h'' : ∀ K' : Act → World → Prop, Hid (∀ a w, S0 w → ((listed.setIfInBounds k true).getD f true = false → S1 w) → wpF P md ops Q S0 S1 f fuel (listed.setIfInBounds k true) a w → K' a w) → if Region.wanted o'' (yielded ops a.tmps) = true then Oper.wp P o'' a w K' Q else K' (a.put o''.dst undef) w) :
    wpF P md ops Q S0 S1 f (fuel + 1) listed a w := by
  refine ⟨fun h0 => (by rw [hr] at h0; cases h0), fun x hx => ?_⟩
  rw [hr] at hx
  rcases List.mem_cons.1 hx with rfl | hx
  · exact wpOp_step (op_at ho) fun K' hK => h K' (Lib.hid fun a w h0 h1 h2 => hK a w ⟨⟨h0, h1⟩, h2⟩)
  · rcases List.mem_cons.1 hx with rfl | hx
    · exact wpOp_step (op_at ho') fun K' hK => h' K' (Lib.hid fun a w h0 h1 h2 => hK a w ⟨⟨h0, h1⟩, h2⟩)
    · obtain rfl : x = k := by simpa using hx
      exact wpOp_step (op_at ho'') fun K' hK => h'' K' (Lib.hid fun a w h0 h1 h2 => hK a w ⟨⟨h0, h1⟩, h2⟩)

theorem cell_ext {w W : World} {a : Addr} {v : Value} (h : w.cell? a = some v) (hx : Ext w W) : W.cell? a = some v := by
  have hl : a.block < w.heap.size := by
    rcases Nat.lt_or_ge a.block w.heap.size with h1 | h1
    · exact h1
    · unfold World.cell? at h
      rw [Array.getElem?_eq_none h1] at h
      simp at h
  unfold World.cell? at h ⊢
  rw [hx.block _ hl]
  exact h
theorem double_cases (s : BagS) (h : BagOk s) (id : Int) : ((s.double id).2 ≠ 0 ∧ (s.double id).1 = s) ∨ ∃ (i : Nat) (hi : i < s.ms.length), (s.double id).2 = 0 ∧ s.at_ id = (i : Int) ∧ (s.double id).1 = ⟨s.ms ++ [s.ms[i]], s.ids ++ [s.last + 1], s.last + 1⟩ := by
  rcases at_lt id h with h0 | ⟨i, h0, h1, h2⟩
  · left
    have hp : s.peek id = (zeroM, 130) := by unfold BagS.peek; rw [if_pos (by omega)]
    unfold BagS.double
    rw [hp, if_pos (by decide)]
    exact ⟨by simp, rfl⟩
  · have hp : s.peek id = (s.ms[i], 0) := by unfold BagS.peek; rw [if_neg (by omega), h0]; simp [List.getD, List.getElem?_eq_getElem h2]
    unfold BagS.double
    rw [hp, if_neg (by simp), send1]
    unfold BagS.step
    by_cases hc : chkM s.ms[i] = true ∧ s.ms.length < 256
    · rw [if_pos hc]
      exact .inr ⟨i, h2, by simp, h0, rfl⟩
    · rw [if_neg hc]
      exact .inl ⟨by simp, rfl⟩
/-- What NetKeeps holds: the bag, the messages and the numbers that should be there. -/
def KeepR (w : World) (g : Nat) (s : BagS) (vt vi : Value) : Prop :=
  NetR w g (· ≠ g) s ∧ Rs kMsg w (· ≠ g) vt s.ms ∧ Rs kInt w (· ≠ g) vi s.ids ∧ Inc s
section
variable {w w' : World} {g : Nat} {s s' : BagS} {vt vi vt' vi' : Value}
theorem KeepR.ext (h : KeepR w g s vt vi) (he : Ext w w') : KeepR w' g s vt vi := ⟨h.1.ext he, h.2.1.ext he, h.2.2.1.ext he, h.2.2.2⟩
/-- The bag moved: the lists stay. -/
theorem KeepR.lists (h : KeepR w g s vt vi) (hu : Upd (fun b => b = g) w w') : Rs kMsg w' (· ≠ g) vt s.ms ∧ Rs kInt w' (· ≠ g) vi s.ids :=
  ⟨h.2.1.upd hu fun b hb e => hb e, h.2.2.1.upd hu fun b hb e => hb e⟩
theorem KeepR.net (h : KeepR w g s vt vi) (hn : NetR w' g (fun b => w.heap.size ≤ b ∨ b ≠ g) s') : NetR w' g (· ≠ g) s' :=
  hn.mono (fun b hb => by have := h.1.lt; rcases hb with hb | hb; omega; exact hb) (fun h => h rfl)
end
end Go.Proofs.Ytfflcnlgkbgbhaa
