/-
  Texts of this claim, put together: RegF, Step, CodeAt, DskAct, DskWr, DskKit, DskClone, DskR.
-/
import Derived.Deep.RegionHeld3
import Derived.RegionTactic
import Derived.Lib.Hide
import Derived.Test.YtjjhmknlhfijjaaZ1
import Derived.Deep.RegionLaw
import Derived.Test.YtjjhmknlhfijjaaZ2
import Derived.Deep.Cut
set_option linter.unusedVariables false
set_option linter.unusedSimpArgs false
namespace Go.Proofs.Ytjjhmknlhfijjaa
open Go.RowKit

section
variable {P : Program} {ops : Array Oper} {Q : Exit → Act → World → Prop} {md : Region.Mode} {S0 S1 : World → Prop} {f : Nat}

/-- Whatever order is picked; behind every operation S0 holds, and S1 while f is to come. -/
def wpF (P : Program) (md : Region.Mode) (ops : Array Oper) (Q : Exit → Act → World → Prop) (S0 S1 : World → Prop) (f : Nat) : Nat → Array Bool → Act → World → Prop
  | 0, listed, a, w => Region.ready md ops listed = [] ∧ Q .normal a w
  | fuel + 1, listed, a, w =>
    (Region.ready md ops listed = [] → Q .normal a w) ∧
    ∀ i ∈ Region.ready md ops listed, wpOp P ops Q i (fun a' w' => (S0 w' ∧ ((listed.setIfInBounds i true).getD f true = false → S1 w')) ∧ wpF P md ops Q S0 S1 f fuel (listed.setIfInBounds i true) a' w') a w
theorem wpF_any : ∀ (fuel : Nat) (listed : Array Bool) (a : Act) (w : World), wpF P md ops Q S0 S1 f fuel listed a w → wpAny P md ops Q fuel listed a w
  | 0, _, _, _, h => h
  | fuel + 1, _, _, _, h => ⟨h.1, fun i hi => wpOp_mono (fun a' w' h' => wpF_any fuel _ a' w' h'.2) (h.2 i hi)⟩
/-- What yields the same in every world that meets G is taken first; G holds while it is to come (T, hG). -/
theorem wpF_first {i : Nat} {oi : Oper} {v : Value} (G : World → Prop) (T : Array Bool → Prop) (hi : ops[i]? = some oi) (hsel : ∀ (j : Nat) (o : Oper) cs b, ops[j]? = some o → o.op ≠ .select cs b)
    (hQ : ∀ c a w, Q (.panic c) (a.put oi.dst v) w → Q (.panic c) a w) (hif : i ≠ f)
    (hG : ∀ (l : Array Bool) (w : World), T l → S0 w → (l.getD f true = false → S1 w) → G w)
    (hT : ∀ (l : Array Bool) (j : Nat) (oj : Oper), T l → ops[j]? = some oj → j ≠ i → (∀ e ∈ oj.after, Region.binds md e = true → e.on ≠ i) → T (l.setIfInBounds j true)) :
    ∀ (fuel : Nat) (listed : Array Bool) (a : Act) (w : World),
      (∀ j oj, ops[j]? = some oj → j ≠ i → listed.getD j true = false → (∀ e ∈ oj.after, Region.binds md e = true → e.on ≠ i) → oi.apart ops oj = true) →
      i ∈ Region.ready md ops listed → YieldsIf P ops G oi v a → S0 w → (listed.getD f true = false → S1 w) → T listed →
      wpF P md ops Q S0 S1 f fuel (listed.setIfInBounds i true) (a.put oi.dst v) w → wpF P md ops Q S0 S1 f (fuel + 1) listed a w := by
  intro fuel
  induction fuel with
  | zero =>
    intro listed a w _ hr hy hS0 hS1 hTl H
    refine ⟨fun h => (by rw [h] at hr; cases hr), fun j hj => ?_⟩
    by_cases hji : j = i
    · subst hji; exact hy.wpOp hi (hG _ _ hTl hS0 hS1) ⟨⟨hS0, fun e => hS1 (by rw [getD_set_ne true hif] at e; exact e)⟩, H⟩
    · have := ready_mono hj hji
      rw [H.1] at this
      cases this
  | succ fuel ih =>
    intro listed a w hfree hr hy hS0 hS1 hTl H
    refine ⟨fun h => (by rw [h] at hr; cases hr), fun j hj => ?_⟩
    by_cases hji : j = i
    · subst hji; exact hy.wpOp hi (hG _ _ hTl hS0 hS1) ⟨⟨hS0, fun e => hS1 (by rw [getD_set_ne true hif] at e; exact e)⟩, H⟩
    · have h1 := H.2 j (ready_mono hj hji)
      obtain ⟨hjun, oj, hoj, hall⟩ := mem_ready.1 hj
      have hnot : ∀ e ∈ oj.after, Region.binds md e = true → e.on ≠ i := fun e he hb heq => by
        have h1 := hall e he hb
        have h0 := (mem_ready.1 hr).1
        rw [heq] at h1
        rcases Nat.lt_or_ge i listed.size with h' | h'
        · simp [h'] at h0 h1; rw [h0] at h1; cases h1
        · simp [Array.getElem?_eq_none h'] at h1
      have h2 := wpOp_putIf hoj (hfree j oj hoj hji hjun hnot) (fun cs b => hsel i oi cs b hi) (fun cs b => hsel j oj cs b hoj) hQ hy h1
      have hfree' : ∀ k ok, ops[k]? = some ok → k ≠ i → (listed.setIfInBounds j true).getD k true = false →
          (∀ e ∈ ok.after, Region.binds md e = true → e.on ≠ i) → oi.apart ops ok = true := fun k ok hk hki hun hno => by
        refine hfree k ok hk hki ?_ hno
        by_cases hjk : j = k
        · subst hjk; exact hjun
        · rw [getD_set_ne true hjk] at hun; exact hun
      refine wpOp_mono (fun a' w' h3 => ?_) h2
      have hs : (listed.setIfInBounds j true).getD f true = false → S1 w' := fun e => h3.2.1.2 (by
        rw [Array.setIfInBounds_comm _ _ (Ne.symm hji), getD_set_ne true hif]; exact e)
      refine ⟨⟨h3.2.1.1, hs⟩, ih (listed.setIfInBounds j true) a' w' hfree' (ready_mono hr (Ne.symm hji)) h3.1 h3.2.1.1 hs (hT _ _ _ hTl hoj hji hnot) ?_⟩
      rw [Array.setIfInBounds_comm _ _ hji]
      exact h3.2.2
theorem op_at {i : Nat} {oi : Oper} {tl : List Oper} (h : ops.toList.drop i = oi :: tl) : ops[i]? = some oi := by
  rw [← Array.getElem?_toList]
  have := congrArg (fun l => l[0]?) h
  simpa [List.getElem?_drop] using this
/-- Taken first: what yields in every world that meets S0. -/
theorem wpF_take0 {i : Nat} {oi : Oper} {tl : List Oper} {v : Value} {fuel : Nat} {listed : Array Bool} {a : Act} {w : World} (hi' : ops.toList.drop i = oi :: tl)
    (hs : Region.noSelect ops = true) (hf : Region.free md ops listed i = true) (hr : (Region.ready md ops listed).contains i = true)
    (hQ : ∀ c a w, Q (.panic c) (a.put oi.dst v) w → Q (.panic c) a w) (hif : (i == f) = false) (hy : YieldsIf P ops S0 oi v a) (h0 : S0 w) (h1 : listed.getD f true = false → S1 w)
    (h : wpF P md ops Q S0 S1 f fuel (listed.setIfInBounds i true) (a.put oi.dst v) w) : wpF P md ops Q S0 S1 f (fuel + 1) listed a w :=
  wpF_first S0 (fun _ => True) (op_at hi') (Region.noSelect_spec hs) hQ (by simpa using hif) (fun _ _ _ h _ => h) (fun _ _ _ _ _ _ _ => trivial) fuel listed a w (Region.free_spec (op_at hi') hf) (by simpa using hr) hy h0 h1 trivial h
/-- Does f wait for i? -/
def waits (md : Region.Mode) (ops : Array Oper) (f i : Nat) : Bool := match ops[f]? with
  | some o => o.after.any fun e => Region.binds md e && e.on == i
  | none => false
/-- Taken first: what yields in every world that meets S0 and S1, while f, which waits for it, is to come. -/
theorem wpF_take1 {i : Nat} {oi : Oper} {tl : List Oper} {v : Value} {fuel : Nat} {listed : Array Bool} {a : Act} {w : World} (hi' : ops.toList.drop i = oi :: tl)
    (hs : Region.noSelect ops = true) (hf : Region.free md ops listed i = true) (hr : (Region.ready md ops listed).contains i = true)
    (hQ : ∀ c a w, Q (.panic c) (a.put oi.dst v) w → Q (.panic c) a w) (hif : (i == f) = false) (hw : waits md ops f i = true) (hl : listed.getD f true = false) (hy : YieldsIf P ops (fun w => S0 w ∧ S1 w) oi v a) (h0 : S0 w) (h1 : listed.getD f true = false → S1 w)
    (h : wpF P md ops Q S0 S1 f fuel (listed.setIfInBounds i true) (a.put oi.dst v) w) : wpF P md ops Q S0 S1 f (fuel + 1) listed a w :=
  wpF_first (fun w => S0 w ∧ S1 w) (fun l => l.getD f true = false) (op_at hi') (Region.noSelect_spec hs) hQ (by simpa using hif) (fun _ _ hT h0 h1 => ⟨h0, h1 hT⟩) (fun l j oj hT hoj hji hno => by
    by_cases hjf : j = f
    · subst hjf
      unfold waits at hw
      rw [hoj] at hw
      simp only [Array.any_eq_true', Bool.and_eq_true, beq_iff_eq, List.any_eq_true] at hw
      obtain ⟨e, he, hb, hei⟩ := hw
      exact absurd hei (hno e he hb)
    · rw [getD_set_ne true hjf]; exact hT) fuel listed a w (Region.free_spec (op_at hi') hf) (by simpa using hr) hy h0 h1 hl h
/-- The one that may come up comes up. -/
theorem wpF_step {i : Nat} {o : Oper} {tl : List Oper} {fuel : Nat} {listed : Array Bool} {a : Act} {w : World} (hr : Region.ready md ops listed = [i]) (ho : ops.toList.drop i = o :: tl)
    (h : ∀ K' : Act → World → Prop, Hid (∀ a w, S0 w → ((listed.setIfInBounds i true).getD f true = false → S1 w) → wpF P md ops Q S0 S1 f fuel (listed.setIfInBounds i true) a w → K' a w) → if Region.wanted o (yielded ops a.tmps) = true then Oper.wp P o a w K' Q else K' (a.put o.dst undef) w) :
    wpF P md ops Q S0 S1 f (fuel + 1) listed a w := by
  refine ⟨fun h0 => (by rw [hr] at h0; cases h0), fun j hj => ?_⟩
  rw [hr] at hj
  obtain rfl : j = i := by simpa using hj
  exact wpOp_step (op_at ho) fun K' hK => h K' (Lib.hid fun a w h0 h1 h2 => hK a w ⟨⟨h0, h1⟩, h2⟩)
theorem wpF_done {listed : Array Bool} {a : Act} {w : World} (hr : Region.ready md ops listed = []) (h : Q .normal a w) :
    ∀ fuel, wpF P md ops Q S0 S1 f fuel listed a w
  | 0 => ⟨hr, h⟩
  | _ + 1 => ⟨fun _ => h, by rw [hr]; simp⟩
/-- f has come up: S1 is asked no more. -/
theorem gone {l : Array Bool} {f : Nat} {p : Prop} (h : l.getD f true = true) : l.getD f true = false → p := fun e => by rw [h] at e; cases e
/-- The beginning. -/
theorem wpF_region (S0 S1 : World → Prop) (f n : Nat) {id : Nat} {a : Act} {w : World} (hm : P.follows .mixedOrders = true) (hn : ops.size = n)
    (h : wpF P .any ops (NoPanic Q) S0 S1 f n (Array.replicate n false) a w.drew) : (Code.region id ops true).wp P Q a w := by
  subst hn
  exact wp_region_noPanic (wp_region_any hm (wpF_any _ _ _ _ h))
end
end Go.Proofs.Ytjjhmknlhfijjaa
set_option linter.unusedVariables false
set_option linter.unusedSimpArgs false
namespace Go.Proofs.Ytjjhmknlhfijjaa
open Go.RowKit

theorem step_append_Rs {P : Program} {ops : Array Oper} {o : Oper} {a : Act} {w : World} {K : Act → World → Prop} {Q : Exit → Act → World → Prop} {E : Prop} {α : Type} (d : Kd α) (D : Nat) (hD : o.dst = some D) (hgd : o.guard = none) (s y : Operand) (t e : TypeId) {z : Value} {bytes : Nat}
    (ho : o.op = .call { callee := .builtin .append, args := #[s, y], argTypes := #[t, t] }) (hE : ElemT P t e z d.sz bytes)
    (base : Nat) (v x : Value) (xs ys : List α) (S T : Nat → Prop) (hs : a.eval s = v) (hx : a.eval y = x) (hown : Ow d e w base S v xs) (hr : Rs d w T x ys)
    (hST : ∀ y cs, d.K w T y cs → d.K w (fun b => S b ∧ some b ≠ v.ownBlock) y cs) (hnew : ∀ b, w.heap.size ≤ b → S b)
    (hbytes : (xs.length + ys.length) * bytes ≤ 140737488355328) (hbase : base ≤ w.heap.size)
    (h : ∀ v' w', Ow d e w' base S v' (xs ++ ys) → w.grownBy w' v.ownBlock → (v'.ownBlock = v.ownBlock ∨ v'.ownBlock = some w.heap.size) → K (a.put (some D) v') w') :
    if Region.wanted o (yielded ops a.tmps) = true then Oper.wp P o a w K Q else E := by
  have hw : Region.wanted o (yielded ops a.tmps) = true := by simp [Region.wanted, hgd]
  rw [if_pos hw]
  obtain ⟨i, hi, hz0, hz1, hz2⟩ := info_parts hE.info
  obtain ⟨v', w', hr, h2, h3, h4⟩ := run_append_Rs (P := P) (w := w) (d := d) base t o.type e i z bytes hE.under hi hz0 hz1 hz2 hE.cells hE.pos v x xs ys S T hown hr hST hnew hbytes hE.pos' hbase
  unfold Oper.wp execOp
  simp only [ho, resolve, invoke, builtin, Sem.run_bind, Sem.run_pure, Result.andThen_ok, List.map_toArray, List.map_cons, List.map_nil, hs, hx, hr]
  show K (a.put o.dst v') w'
  rw [hD]
  exact h v' w' h2 h3 h4
end Go.Proofs.Ytjjhmknlhfijjaa
set_option linter.unusedVariables false
set_option linter.unusedSimpArgs false
namespace Go.Proofs.Ytjjhmknlhfijjaa

def partR (n : Nat) : Code → Option Code
  | .region i o d => if i = n then some (.region i o d) else none
  | .loop c => partR n c
  | .seq a b => match partR n a with
    | some c => some c
    | none => partR n b
  | .block _ c => partR n c
  | .scope c => partR n c
  | .cond _ a b => match partR n a with
    | some c => some c
    | none => partR n b
  | _ => none
def partB (n : Nat) : Code → Option Code
  | .loop c => partB n c
  | .seq a b => match partB n a with
    | some c => some c
    | none => partB n b
  | .block i c => if i = n then some (.block i c) else partB n c
  | .scope c => partB n c
  | .cond _ a b => match partB n a with
    | some c => some c
    | none => partB n b
  | _ => none
end Go.Proofs.Ytjjhmknlhfijjaa
set_option linter.unusedVariables false
set_option linter.unusedSimpArgs false
namespace Go.Proofs.Ytjjhmknlhfijjaa
open Go.RowKit

def strO (n : Nam) : Obj := .cells #[.string ⟨n.toArray⟩] 9 (0, 0)
def intO (a : Int) : Obj := .cells #[.int .i64 a] 3 (0, 0)
/-- What an act leaves: the files turned, their bytes in elder blocks or new ones. -/
def Done (w : World) (b : Nat) (D : Nat → Prop) (L : KL Nam) (e : Ending) (w' : World) : Prop :=
  e = .returned (.tuple #[]) ∧ TabF w' b (fun k => D k ∨ w.heap.size ≤ k) L ∧ Upd (fun k => k = b) w w'

set_option maxHeartbeats 400000 in
theorem DpA_calls (w : World) (b c : Nat) (D : Nat → Prop) (L : KL Nam) (n : Nam) (v : Value) (h : TabF w b D L) (hD : ¬ D b) (hn : n.length ≤ 32) (hc : w.heap[c]? = some (strO n)) :
    Calls Try.prog 75 #[.map (some b), v, .pointer (some ⟨c, 0, none⟩)] w (Done w b D (delK L n)) := by
  have hc1 : w.cell? ⟨c, 0, none⟩ = some (.string ⟨n.toArray⟩) := cell_blk hc 0
  have hlt := blk_lt hc
  have hdl := fun ty => h.del (n := n) (by omega) hD ty
  have HH := Lib.hid h
  clear hc h
  go_enter Try.func75, Try.ntmps75
  obtain ⟨w1, hd1, hd2, hd3⟩ := hdl 0
  go_wp2_with fail
  go_end0
  exact ⟨rfl, hd2.mono fun _ hk => .inl hk, hd3⟩

set_option maxHeartbeats 400000 in
theorem MvA_calls (w : World) (b c c2 : Nat) (D : Nat → Prop) (L : KL Nam) (o t : Nam) (v : Value) (h : TabF w b D L) (hD : ¬ D b) (ho : o.length ≤ 32) (ht : t.length ≤ 32) (hl : L.length ≤ 100000)
    (hf : (getK L o).isSome = true) (hb : ¬ c = b) (hb2 : ¬ c2 = b) (hc : w.heap[c]? = some (strO o)) (hc2 : w.heap[c2]? = some (strO t)) :
    Calls Try.prog 56 #[.map (some b), v, .pointer (some ⟨c, 0, none⟩), .pointer (some ⟨c2, 0, none⟩)] w (Done w b D (putK (delK L o) t (bytesK L o))) := by
  have hc1 : w.cell? ⟨c, 0, none⟩ = some (.string ⟨o.toArray⟩) := cell_blk hc 0
  rcases h.look (n := o) (by omega) with ⟨h1, _⟩ | ⟨x, bs, h1, h2, h3⟩
  · rw [h1] at hf; cases hf
  have hby : bytesK L o = bs := by unfold bytesK; rw [h1]; rfl
  rw [hby]
  obtain ⟨w1, hd1, hd2, hd3⟩ := h.del (n := o) (by omega) hD 0
  have hc3 : w1.cell? ⟨c2, 0, none⟩ = some (.string ⟨t.toArray⟩) := cell_blk (blk_upd hc2 hd3 hb2) 0
  obtain ⟨w2, hp1, hp2, hp3⟩ := hd2.put (n := t) (by omega) (by have := delK_le L o; omega) (h3.upd hd3 (fun k hk e => hD (e ▸ hk))) hD
  have HP := Lib.hid hp2
  have HU := Lib.hid (hd3.trans hp3)
  clear hc hc2 h h1 h3 hd2 hd3 hp2 hp3 hf hby
  go_enter Try.func56, Try.ntmps56
  go_wp2_with fail
  go_end0
  exact ⟨rfl, HP.out.mono fun _ hk => .inl hk, HU.out⟩

set_option maxRecDepth 1000000 in
set_option maxHeartbeats 4000000 in
theorem TrA_calls (w : World) (b c c2 : Nat) (D : Nat → Prop) (L : KL Nam) (n : Nam) (a : Nat) (v : Value) (h : TabF w b D L) (hD : ¬ D b) (hn : n.length ≤ 32) (hl : L.length ≤ 100000)
    (hf : a ≤ (bytesK L n).length) (hb : ¬ c = b) (hb2 : ¬ c2 = b) (hc : w.heap[c]? = some (strO n)) (hc2 : w.heap[c2]? = some (intO a)) :
    Calls Try.prog 74 #[.map (some b), v, .pointer (some ⟨c, 0, none⟩), .pointer (some ⟨c2, 0, none⟩)] w (Done w b D (putK L n ((bytesK L n).take a))) := by
  have hc1 : w.cell? ⟨c, 0, none⟩ = some (.string ⟨n.toArray⟩) := cell_blk hc 0
  have hc4 : w.cell? ⟨c2, 0, none⟩ = some (.int .i64 a) := cell_blk hc2 0
  obtain ⟨A, m, cp, hlk, hrs, -⟩ := h.at_ (n := n) (by omega)
  obtain ⟨hm1, hm2, hm3, hm4, -⟩ := hrs.shape
  have HTO := Lib.hid (slice_to tBytes A m cp .i64 (a : Int) a rfl (by omega))
  have HPT := Lib.hid (hrs.to_ (h := a) rfl hf)
  have HB := Lib.hid h
  have HBL := Lib.hid h.lt
  have HC := Lib.hid hc
  have HC2 := Lib.hid hc2
  have HLEN := Lib.hid (show a ≤ 140737488355328 by omega)
  have HTL := Lib.hid (show ((bytesK L n).take a).length = a by rw [List.length_take]; omega)
  have HS0 := Lib.hid (show ∀ W : World, Ext w W → W.cell? ⟨c, 0, none⟩ = some (.string ⟨n.toArray⟩) ∧ W.cell? ⟨c2, 0, none⟩ = some (.int .i64 a) from fun W he => ⟨cell_blk (blk_ext hc he) 0, cell_blk (blk_ext hc2 he) 0⟩)
  have HS1 := Lib.hid (show ∀ W : World, Ext w W → (Instr.lookup 53 (.map (some b)) (.string ⟨n.toArray⟩) false).run Try.prog W = .ok (.slice A m cp) W from fun W he => hlk W (he.block b h.lt))
  have HS2 := Lib.hid (show ∀ W : World, Upd (fun k => k = b) w W → W.cell? ⟨c, 0, none⟩ = some (.string ⟨n.toArray⟩) ∧ W.cell? ⟨c2, 0, none⟩ = some (.int .i64 a) from fun W he => ⟨cell_blk (blk_upd hc he hb) 0, cell_blk (blk_upd hc2 he hb2) 0⟩)
  have HD := Lib.hid hD
  have HN := Lib.hid hn
  have HL := Lib.hid hl
  clear hc1 hc4 hc hc2 hlk hrs hm1 hm2 hm3 hm4 h hD hn hl hf
  simp only [partV_eq, Nat.sub_zero] at HTO HPT
  have hto := HTO.out
  clear HTO
  have hx0 := Lib.hid ((Ext.refl w).drew)
  go_enter Try.func74, Try.ntmps74
  go_upto_region 0 with fail
  refine wpF_region (fun W => W.cell? ⟨c, 0, none⟩ = some (.string ⟨n.toArray⟩) ∧ W.cell? ⟨c2, 0, none⟩ = some (.int .i64 a)) (fun W => (Instr.lookup 53 (.map (some b)) (.string ⟨n.toArray⟩) false).run Try.prog W = .ok (.slice A m cp) W) 9 10 (by kernel_rfl) (by kernel_rfl) ?_
  refine wpF_take0 (i := 0) (v := ?v1) rfl (by kernel_rfl) (by kernel_rfl) (by kernel_rfl) (fun _ _ _ h => h) (by kernel_rfl) (Or.inl ⟨by rfl, ?hy1⟩) (HS0.out _ hx0.out) (fun _ => HS1.out _ hx0.out) ?rest1
  case hy1 => (intro W hSW; (try dsimp only at hSW); go_simp; (try with_reducible rfl))
  (try simp only [Act.put, List.setIfInBounds_toArray, List.set_cons_zero, List.set_cons_succ])
  refine wpF_take0 (i := 1) (v := ?v2) rfl (by kernel_rfl) (by kernel_rfl) (by kernel_rfl) (fun _ _ _ h => h) (by kernel_rfl) (Or.inl ⟨by rfl, ?hy2⟩) (HS0.out _ hx0.out) (fun _ => HS1.out _ hx0.out) ?rest2
  case hy2 => (intro W hSW; (try dsimp only at hSW); go_simp; (try with_reducible rfl))
  (try simp only [Act.put, List.setIfInBounds_toArray, List.set_cons_zero, List.set_cons_succ])
  refine wpF_take0 (i := 3) (v := ?v3) rfl (by kernel_rfl) (by kernel_rfl) (by kernel_rfl) (fun _ _ _ h => h) (by kernel_rfl) (Or.inl ⟨by rfl, ?hy3⟩) (HS0.out _ hx0.out) (fun _ => HS1.out _ hx0.out) ?rest3
  case hy3 => (intro W hSW; (try dsimp only at hSW); go_simp; (try with_reducible rfl))
  (try simp only [Act.put, List.setIfInBounds_toArray, List.set_cons_zero, List.set_cons_succ])
  refine wpF_take0 (i := 4) (v := ?v4) rfl (by kernel_rfl) (by kernel_rfl) (by kernel_rfl) (fun _ _ _ h => h) (by kernel_rfl) (Or.inl ⟨by rfl, ?hy4⟩) (HS0.out _ hx0.out) (fun _ => HS1.out _ hx0.out) ?rest4
  case hy4 => (intro W hSW; (try dsimp only at hSW); go_simp; (try with_reducible rfl))
  (try simp only [Act.put, List.setIfInBounds_toArray, List.set_cons_zero, List.set_cons_succ])
  refine wpF_take1 (i := 5) (v := ?v5) rfl (by kernel_rfl) (by kernel_rfl) (by kernel_rfl) (fun _ _ _ h => h) (by kernel_rfl) (by kernel_rfl) (by kernel_rfl) (Or.inl ⟨by rfl, ?hy5⟩) (HS0.out _ hx0.out) (fun _ => HS1.out _ hx0.out) ?rest5
  case hy5 => (intro W hSW; (try dsimp only at hSW); go_simp; (try with_reducible rfl))
  (try simp only [Act.put, List.setIfInBounds_toArray, List.set_cons_zero, List.set_cons_succ])
  refine wpF_take0 (i := 6) (v := ?v6) rfl (by kernel_rfl) (by kernel_rfl) (by kernel_rfl) (fun _ _ _ h => h) (by kernel_rfl) (Or.inl ⟨by rfl, ?hy6⟩) (HS0.out _ hx0.out) (fun _ => HS1.out _ hx0.out) ?rest6
  case hy6 => (intro W hSW; (try dsimp only at hSW); go_simp; (try with_reducible rfl))
  (try simp only [Act.put, List.setIfInBounds_toArray, List.set_cons_zero, List.set_cons_succ])
  refine wpF_take0 (i := 7) (v := ?v7) rfl (by kernel_rfl) (by kernel_rfl) (by kernel_rfl) (fun _ _ _ h => h) (by kernel_rfl) (Or.inl ⟨by rfl, ?hy7⟩) (HS0.out _ hx0.out) (fun _ => HS1.out _ hx0.out) ?rest7
  case hy7 => (intro W hSW; (try dsimp only at hSW); go_simp; (try with_reducible rfl))
  (try simp only [Act.put, List.setIfInBounds_toArray, List.set_cons_zero, List.set_cons_succ])
  have hx1 := Lib.hid (((Ext.refl w).drew).alloc (.cells #[] 5))
  refine wpF_step (i := 2) (by kernel_rfl) rfl (fun K hK => ?_)
  go_simp
  refine hK.out _ _ (HS0.out _ hx1.out) (fun _ => HS1.out _ hx1.out) ?_
  clear hK K
  (try simp only [Act.put, List.setIfInBounds_toArray, List.set_cons_zero, List.set_cons_succ])
  refine wpF_step (i := 8) (by kernel_rfl) rfl (fun K hK => ?_)
  refine step_append_Rs kByte 14 rfl rfl (.tmp 8) (.tmp 13) 23 5 rfl tBytes w.heap.size _ _ [] ((bytesK L n).take a) (w.heap.size ≤ ·) D rfl rfl (Ow.slit (xs := []) (heap_alloc_new _ _) (Nat.le_refl _) (Nat.le_refl _) (by simp) (by simp)) (HPT.out.ext hx1.out) (fun _ _ h => h) (fun k hk => Nat.le_trans hx1.out.le hk) (by rw [HTL.out]; simpa using HLEN.out) (hx1.out.le) ?_
  intro v' w2 ho hg hbk
  obtain ⟨u, rfl, -⟩ := ownBlock_head ho (own_some hbk (fun h => by cases h))
  rw [List.nil_append] at ho
  have hx2 := Lib.hid (show Ext w w2 from (((Ext.refl w).drew).alloc (.cells #[] 5)).grown hg (fun k hk => by have e : some w.heap.size = some k := hk; injection e with e; omega))
  have HT2 := Lib.hid ((HB.out.ext hx2.out).mono (D' := fun k => D k ∨ w.heap.size ≤ k) (fun _ hk => .inl hk))
  obtain ⟨w3, hp1, hp2, hp3⟩ := HT2.out.put (n := n) (by have := HN.out; omega) (by have := HL.out; omega) (ho.rs.mono fun _ hk => .inr hk) (by rintro (h | h); exact HD.out h; have := HBL.out; omega)
  have HP := Lib.hid hp2
  have HU := Lib.hid ((hx2.out.upd (fun k => k = b)).trans hp3)
  clear hp2 hp3 ho hg hbk HT2 HTL HLEN HPT hto
  refine hK.out _ _ (HS0.out _ hx2.out) (fun _ => HS1.out _ hx2.out) ?_
  clear hK K
  (try simp only [Act.put, List.setIfInBounds_toArray, List.set_cons_zero, List.set_cons_succ])
  refine wpF_step (i := 9) (by kernel_rfl) rfl (fun K hK => ?_)
  go_simp
  refine hK.out _ _ (HS2.out _ HU.out) (gone (by kernel_rfl)) ?_
  clear hK K
  (try simp only [Act.put, List.setIfInBounds_toArray, List.set_cons_zero, List.set_cons_succ])
  refine wpF_done (by kernel_rfl) ?_ _
  go_end0
  exact ⟨rfl, HP.out, HU.out⟩
end Go.Proofs.Ytjjhmknlhfijjaa
set_option linter.unusedVariables false
set_option linter.unusedSimpArgs false
namespace Go.Proofs.Ytjjhmknlhfijjaa
open Go.RowKit

set_option maxRecDepth 1000000 in
set_option maxHeartbeats 4000000 in
theorem WrA_calls (w : World) (b c c2 : Nat) (D E : Nat → Prop) (L : KL Nam) (n : Nam) (a : Nat) (v : Value) (bs : Nam) (h : TabF w b D L) (hD : ¬ D b) (hn : n.length ≤ 32) (hl : L.length ≤ 100000)
    (hf : a ≤ (bytesK L n).length) (hv : Rs kByte w E v bs) (hsz : (bytesK L n).length + bs.length ≤ 70368744177664) (hb : ¬ c = b) (hb2 : ¬ c2 = b) (hc : w.heap[c]? = some (strO n)) (hc2 : w.heap[c2]? = some (intO a)) :
    Calls Try.prog 51 #[.map (some b), v, .pointer (some ⟨c, 0, none⟩), .pointer (some ⟨c2, 0, none⟩)] w (Done w b D (putK L n (ins (bytesK L n) a bs))) := by
  obtain ⟨A, m, cp, hlk, hrs, -⟩ := h.at_ (n := n) (by omega)
  obtain ⟨hm1, hm2, hm3, hm4, -⟩ := hrs.shape
  have hto := slice_to tBytes A m cp .i64 (a : Int) a rfl (by omega)
  have hpt := hrs.to_ (h := a) rfl hf
  simp only [partV_eq, Nat.sub_zero] at hto hpt
  have HPT := Lib.hid hpt
  have HRS := Lib.hid hrs
  have HV := Lib.hid hv
  have HB := Lib.hid h
  have HBL := Lib.hid h.lt
  have HLK := Lib.hid hlk
  have HC := Lib.hid hc
  have HC2 := Lib.hid hc2
  have HM := Lib.hid (show m = (bytesK L n).length ∧ m ≤ cp from ⟨hm1, by omega⟩)
  have HF := Lib.hid hf
  have HSZ := Lib.hid hsz
  have HTL := Lib.hid (show ((bytesK L n).take a).length = a by rw [List.length_take]; omega)
  have HD := Lib.hid hD
  have HN := Lib.hid hn
  have HL := Lib.hid hl
  have hc1 : w.cell? ⟨c, 0, none⟩ = some (.string ⟨n.toArray⟩) := cell_blk hc 0
  have hc4 : w.cell? ⟨c2, 0, none⟩ = some (.int .i64 a) := cell_blk hc2 0
  have hlk0 := hlk w rfl
  clear hpt hrs hv h hlk hc hc2 hm1 hm2 hm3 hm4 hf hsz hD hn hl
  have hlt : c2 < w.heap.size := blk_lt HC2.out
  go_enter Try.func51, Try.ntmps51
  go_wp2_with (at_builtin; refine wpList_append_Rs kByte rfl (.tmp 11) (.tmp 14) 23 5 rfl tBytes w.heap.size _ _ [] ((bytesK L n).take a) (w.heap.size ≤ ·) D rfl rfl (Ow.slit (xs := []) (heap_alloc_new _ _) (Nat.le_refl _) (Nat.le_refl _) (by simp) (by simp)) (HPT.out.alloc _) (fun _ _ h => h) (fun k hk => by simp at hk; omega) (by rw [HTL.out]; have h1 := HF.out; have h2 := HSZ.out; simp; omega) (by simp) ?_)
  intro v1 w1 ho1 hg1 hk1
  have hq1 := own_some hk1 (fun h => by cases h)
  have HX1 := Lib.hid (show Ext w w1 from ((Ext.refl w).alloc (.cells #[] 5)).grown hg1 (fun k hk => by have e : some w.heap.size = some k := hk; injection e with e; omega))
  have HO1 := Lib.hid ho1
  have HQ1 := Lib.hid hq1
  clear hq1 ho1 hg1 hk1
  go_wp2_with (at_builtin; refine wpList_append_Rs kByte rfl (.tmp 15) (.tmp 16) 23 5 rfl tBytes w.heap.size _ _ ((bytesK L n).take a) bs (w.heap.size ≤ ·) E rfl rfl HO1.out (HV.out.ext HX1.out) (fun _ _ h => h) (fun k hk => Nat.le_trans HX1.out.le hk) (by rw [HTL.out]; have h1 := HF.out; have h2 := HSZ.out; simp; omega) HX1.out.le ?_)
  intro v2 w2 ho2 hg2 hk2
  have hq2 := own_some hk2 HQ1.out
  have hf1 := HO1.out.from_
  have HX2 := Lib.hid (show Ext w w2 from (HX1.out.upd (fun _ => False)).grown hg2 (fun k hk => .inr (hf1 k hk)) |>.ext (Ext.refl w) (fun _ h => h.elim))
  obtain ⟨u, rfl, hul⟩ := ownBlock_head ho2 hq2
  rw [List.length_append, HTL.out] at hul
  have HUL := Lib.hid hul
  have HO2 := Lib.hid ho2
  clear hq2 hg2 hk2 hf1 HX1 HO1 HQ1 ho2 hul hc1 hc4 hto hlk0
  have hc1 : w2.cell? ⟨c, 0, none⟩ = some (.string ⟨n.toArray⟩) := cell_blk (blk_ext HC.out HX2.out) 0
  by_cases hlt2 : u.len < m
  · have hfr := slice_from tBytes A m cp .i64 (u.len : Int) u.len rfl (by omega)
    simp only [partV_eq] at hfr
    have HFR := Lib.hid (show Rs kByte w D (.slice (restA A cp u.len) (m - u.len) (cp - u.len)) ((bytesK L n).drop u.len) from by have := HRS.out.from_ (l := u.len) rfl (by have := HM.out.1; omega); rw [partV_eq, ← HM.out.1] at this; exact this)
    have hcmp : decide (u.len < m) = true := decide_eq_true hlt2
    have HLT := Lib.hid hlt2
    clear hlt2
    unfold hdV
    go_wp2_with (at_builtin; refine wpList_append_Rs kByte rfl (.tmp 23) (.tmp 27) 23 5 rfl tBytes w.heap.size _ _ ((bytesK L n).take a ++ bs) ((bytesK L n).drop u.len) (w.heap.size ≤ ·) D rfl rfl HO2.out (HFR.out.ext HX2.out) (fun _ _ h => h) (fun k hk => Nat.le_trans HX2.out.le hk) (by rw [List.length_append, HTL.out, List.length_drop]; have h1 := HF.out; have h2 := HSZ.out; omega) HX2.out.le ?_)
    intro v3 w3 ho3 hg3 hk3
    have hf1 := HO2.out.from_
    have HX3 := Lib.hid (show Ext w w3 from (HX2.out.upd (fun _ => False)).grown hg3 (fun k hk => .inr (hf1 k hk)) |>.ext (Ext.refl w) (fun _ h => h.elim))
    obtain ⟨u3, rfl, -⟩ := ownBlock_head ho3 (own_some hk3 (hdV_ne u))
    have hins : (bytesK L n).take a ++ bs ++ (bytesK L n).drop u.len = ins (bytesK L n) a bs := by unfold ins; rw [HUL.out]
    rw [← List.append_assoc, hins] at ho3
    have HT3 := Lib.hid ((HB.out.ext HX3.out).mono (D' := fun k => D k ∨ w.heap.size ≤ k) (fun _ hk => .inl hk))
    obtain ⟨w4, hp1, hp2, hp3⟩ := HT3.out.put (n := n) (by have := HN.out; omega) (by have := HL.out; omega) (ho3.rs.mono fun _ hk => .inr hk) (by rintro (h | h); exact HD.out h; have := HBL.out; omega)
    have HP := Lib.hid hp2
    have HU := Lib.hid ((HX3.out.upd (fun k => k = b)).trans hp3)
    have hc5 : w3.cell? ⟨c, 0, none⟩ = some (.string ⟨n.toArray⟩) := cell_blk (blk_ext HC.out HX3.out) 0
    clear hp2 hp3 ho3 hg3 hk3 hf1 hc1 hins
    go_wp2_with fail
    go_end0
    exact ⟨rfl, HP.out, HU.out⟩
  · have hcmp : decide (u.len < m) = false := decide_eq_false hlt2
    have hins : (bytesK L n).take a ++ bs = ins (bytesK L n) a bs := by
      unfold ins
      rw [List.drop_of_length_le (by have := HM.out.1; rw [HUL.out] at hlt2; omega), List.append_nil]
    have ho3 := HO2.out
    rw [hins] at ho3
    have HT3 := Lib.hid ((HB.out.ext HX2.out).mono (D' := fun k => D k ∨ w.heap.size ≤ k) (fun _ hk => .inl hk))
    obtain ⟨w4, hp1, hp2, hp3⟩ := HT3.out.put (n := n) (by have := HN.out; omega) (by have := HL.out; omega) (ho3.rs.mono fun _ hk => .inr hk) (by rintro (h | h); exact HD.out h; have := HBL.out; omega)
    have HP := Lib.hid hp2
    have HU := Lib.hid ((HX2.out.upd (fun k => k = b)).trans hp3)
    clear hp2 hp3 ho3 hins
    unfold hdV at hp1 ⊢
    go_wp2_with fail
    go_end0
    exact ⟨rfl, HP.out, HU.out⟩
end Go.Proofs.Ytjjhmknlhfijjaa
set_option linter.unusedVariables false
set_option linter.unusedSimpArgs false
namespace Go.Proofs.Ytjjhmknlhfijjaa
open Go.RowKit

def ptr (c : Nat) : Value := .pointer (some ⟨c, 0, none⟩)
/-- The function value of an act; what it caught lies in blocks of S. -/
def ActF (w : World) (S : Nat → Prop) : ActK → Value → Prop
  | .wr n a, v => ∃ c c2, v = .func (.func 51) #[] #[ptr c, ptr c2] ∧ (S c ∧ S c2) ∧ w.heap[c]? = some (strO n) ∧ w.heap[c2]? = some (intO a)
  | .tr n a, v => ∃ c c2, v = .func (.func 74) #[] #[ptr c, ptr c2] ∧ (S c ∧ S c2) ∧ w.heap[c]? = some (strO n) ∧ w.heap[c2]? = some (intO a)
  | .mv o t, v => ∃ c c2, v = .func (.func 56) #[] #[ptr c, ptr c2] ∧ (S c ∧ S c2) ∧ w.heap[c]? = some (strO o) ∧ w.heap[c2]? = some (strO t)
  | .dp n, v => ∃ c, v = .func (.func 75) #[] #[ptr c] ∧ S c ∧ w.heap[c]? = some (strO n)
theorem ActF.mono {w : World} {S S' : Nat → Prop} {k : ActK} {v : Value} (hS : ∀ b, S b → S' b) (h : ActF w S k v) : ActF w S' k v := by
  cases k <;> simp only [ActF] at h ⊢
  · obtain ⟨c, c2, e, ⟨h1, h2⟩, h3⟩ := h; exact ⟨c, c2, e, ⟨hS _ h1, hS _ h2⟩, h3⟩
  · obtain ⟨c, c2, e, ⟨h1, h2⟩, h3⟩ := h; exact ⟨c, c2, e, ⟨hS _ h1, hS _ h2⟩, h3⟩
  · obtain ⟨c, c2, e, ⟨h1, h2⟩, h3⟩ := h; exact ⟨c, c2, e, ⟨hS _ h1, hS _ h2⟩, h3⟩
  · obtain ⟨c, e, h1, h3⟩ := h; exact ⟨c, e, hS _ h1, h3⟩
theorem ActF.move {w w' : World} {S : Nat → Prop} {k : ActK} {v : Value} (hm : ∀ b, S b → w'.heap[b]? = w.heap[b]?) (h : ActF w S k v) : ActF w' S k v := by
  cases k <;> simp only [ActF] at h ⊢
  · obtain ⟨c, c2, e, ⟨h1, h2⟩, h3, h4⟩ := h; exact ⟨c, c2, e, ⟨h1, h2⟩, (hm _ h1).trans h3, (hm _ h2).trans h4⟩
  · obtain ⟨c, c2, e, ⟨h1, h2⟩, h3, h4⟩ := h; exact ⟨c, c2, e, ⟨h1, h2⟩, (hm _ h1).trans h3, (hm _ h2).trans h4⟩
  · obtain ⟨c, c2, e, ⟨h1, h2⟩, h3, h4⟩ := h; exact ⟨c, c2, e, ⟨h1, h2⟩, (hm _ h1).trans h3, (hm _ h2).trans h4⟩
  · obtain ⟨c, e, h1, h3⟩ := h; exact ⟨c, e, h1, (hm _ h1).trans h3⟩
theorem ActF.bound {w : World} {S : Nat → Prop} {k : ActK} {v : Value} (h : ActF w S k v) : ActF w (fun b => S b ∧ b < w.heap.size) k v := by
  cases k <;> simp only [ActF] at h ⊢
  · obtain ⟨c, c2, e, ⟨h1, h2⟩, h3, h4⟩ := h; exact ⟨c, c2, e, ⟨⟨h1, blk_lt h3⟩, ⟨h2, blk_lt h4⟩⟩, h3, h4⟩
  · obtain ⟨c, c2, e, ⟨h1, h2⟩, h3, h4⟩ := h; exact ⟨c, c2, e, ⟨⟨h1, blk_lt h3⟩, ⟨h2, blk_lt h4⟩⟩, h3, h4⟩
  · obtain ⟨c, c2, e, ⟨h1, h2⟩, h3, h4⟩ := h; exact ⟨c, c2, e, ⟨⟨h1, blk_lt h3⟩, ⟨h2, blk_lt h4⟩⟩, h3, h4⟩
  · obtain ⟨c, e, h1, h3⟩ := h; exact ⟨c, e, ⟨h1, blk_lt h3⟩, h3⟩
theorem ActF.one {w : World} {S : Nat → Prop} {k : ActK} {v : Value} (h : ActF w S k v) : v.oneCell' = true := by
  cases k <;> simp only [ActF] at h
  · obtain ⟨c, c2, rfl, _⟩ := h; rfl
  · obtain ⟨c, c2, rfl, _⟩ := h; rfl
  · obtain ⟨c, c2, rfl, _⟩ := h; rfl
  · obtain ⟨c, rfl, _⟩ := h; rfl
/-- An act: what does it, what it writes, what it costs. -/
def kAct : Kd ActS where
  sz := 3
  K := fun w S x cs => ∃ f v, cs = [f, v, .int .i64 (x.data.length : Int)] ∧ ActF w S x.k f ∧ Rs kByte w S v x.data
  len := by rintro w S x cs ⟨f, v, rfl, _⟩; rfl
  one := by
    rintro w S x cs ⟨f, v, rfl, h1, A, c, rfl, _⟩ u hu
    simp only [List.mem_cons, List.not_mem_nil, or_false] at hu
    rcases hu with rfl | rfl | rfl
    · exact h1.one
    · rfl
    · rfl
  mono := by rintro w S S' x cs h ⟨f, v, rfl, h1, h2⟩; exact ⟨f, v, rfl, h1.mono h, h2.mono h⟩
  move := by rintro w w' S x cs h ⟨f, v, rfl, h1, h2⟩; exact ⟨f, v, rfl, h1.move h, h2.keep fun b hb _ => h b hb⟩
  bound := by rintro w S x cs ⟨f, v, rfl, h1, h2⟩; exact ⟨f, v, rfl, h1.bound, h2.bound⟩
/-- An act whose parts lie in blocks of E. -/
def kActE (E : Nat → Prop) : Kd ActS where
  sz := 3
  K := fun w S x cs => kAct.K w E x cs ∧ ∀ b, E b → S b ∧ b < w.heap.size
  len := fun h => kAct.len h.1
  one := fun h => kAct.one h.1
  mono := fun hS h => ⟨h.1, fun b hb => ⟨hS b (h.2 b hb).1, (h.2 b hb).2⟩⟩
  move := fun {w w' S x cs} hm h => ⟨kAct.move (fun b hb => hm b (h.2 b hb).1) h.1, fun b hb => ⟨(h.2 b hb).1, by
    have h1 := hm b (h.2 b hb).1
    have h2 := (h.2 b hb).2
    rcases Nat.lt_or_ge b w'.heap.size with h3 | h3
    · exact h3
    · rw [Array.getElem?_eq_none h3, Array.getElem?_eq_getElem h2] at h1
      cases h1⟩⟩
  bound := fun h => ⟨h.1, fun b hb => ⟨⟨(h.2 b hb).1, (h.2 b hb).2⟩, (h.2 b hb).2⟩⟩
/-- A row of acts of one's own. -/
def ActR (w : World) (D : Nat → Prop) (v : Value) (xs : List ActS) : Prop := Ow (kActE D) 87 w 0 (fun k => D k ∨ v.ownBlock = some k) v xs
theorem ActR.of {w : World} {base : Nat} {S D D' : Nat → Prop} {v : Value} {xs : List ActS} (h : Ow (kActE D) 87 w base S v xs) (hD : ∀ k, D k → D' k) (hlt : ∀ k, D' k → k < w.heap.size) (hn : ∀ k, v.ownBlock = some k → ¬ D' k) : ActR w D' v xs := by
  obtain ⟨h0, hz, cells, ho, hx⟩ := h
  refine ⟨fun k hk => .inr hk, hz, cells, ownsRow_lower ho (Nat.zero_le _), fun j x hj => ?_⟩
  have h1 := hx j x hj
  exact ⟨kAct.mono hD h1.1, fun b hb => ⟨⟨.inl hb, fun e => hn b e.symm hb⟩, hlt b hb⟩⟩
theorem ActR.nil (w : World) (D : Nat → Prop) : ActR w D (.slice none 0 0) [] := Ow.nil _ _ _ _ _
theorem ActR.upd {w w' : World} {S D : Nat → Prop} {v : Value} {xs : List ActS} (h : ActR w D v xs) (hu : Upd S w w') (hD : ∀ k, D k → ¬ S k) (hv : ∀ k, v.ownBlock = some k → ¬ S k) : ActR w' D v xs :=
  Ow.upd h hu fun k hk => hk.elim (hD k) (hv k)
theorem ActR.more {w : World} {D D' : Nat → Prop} {v : Value} {xs : List ActS} (h : ActR w D v xs) (hD : ∀ k, D k → D' k) (hlt : ∀ k, D' k → k < w.heap.size) (hn : ∀ k, v.ownBlock = some k → ¬ D' k) : ActR w D' v xs := ActR.of h hD hlt hn
end Go.Proofs.Ytjjhmknlhfijjaa
set_option linter.unusedVariables false
set_option linter.unusedSimpArgs false
namespace Go.Proofs.Ytjjhmknlhfijjaa
open Go.RowKit

theorem tActs : ElemT Try.prog 54 87 (.agg #[.nilFunc, .slice none 0 0, .int .i64 0]) 3 40 := ⟨Try.underlying54, by kernel_rfl, rfl, by omega, by omega⟩
theorem Ow.mtA {α : Type} {d : Kd α} {w : World} {S : Nat → Prop} {base g : Nat} {e : TypeId} (hb : w.heap[g]? = some (.cells #[] e (0, 0))) (hbase : base ≤ g) (hS : S g) : Ow d e w base S (.slice (some ⟨g, 0, none⟩) 0 0) [] :=
  ⟨fun k hk => by simp [Value.ownBlock] at hk; exact hk ▸ hS, by simp, [], ⟨by simp, .inr ⟨g, 0, #[], rfl, hbase, hb, Nat.le_refl _, Nat.zero_le _, by simp, by simp⟩⟩, fun j x hj => by simp at hj⟩

set_option maxHeartbeats 400000 in
theorem CloneAct_calls (w : World) (D S : Nat → Prop) (v : Value) (bs : List ActS) (hr : Rs (kActE D) w S v bs) (hsz : bs.length * 40 ≤ 140737488355328) :
    Calls Try.prog 57 #[v] w fun e w' => ∃ u, e = .returned u ∧ Ow (kActE D) 87 w' w.heap.size (fun b => w.heap.size ≤ b ∨ S b) u bs ∧ Ext w w' := by
  have HR := Lib.hid hr.bound
  obtain ⟨A, c, rfl, hl, hc, hzl, hrow⟩ := hr
  cases A with
  | none =>
    have : bs = [] := by
      rcases Nat.eq_zero_or_pos bs.length with h0 | h0
      · exact List.eq_nil_of_length_eq_zero h0
      · obtain ⟨ad, h, _⟩ := hrow h0; cases h
    subst this
    clear hrow
    have hq := @Lib.run_eql_slice_nil Try.prog
    go_enter Try.func57, Try.ntmps57
    go_wp2
    go_ret
    exact ⟨_, rfl, Ow.nil _ _ _ _ _, Ext.refl _⟩
  | some ad =>
    clear hrow
    have hq := @Lib.run_eql_slice_nil Try.prog
    go_enter Try.func57, Try.ntmps57
    go_wp2_with (at_builtin; refine wpList_append_Rs (kActE D) rfl (.tmp 5) (.tmp 6) 54 87 rfl tActs w.heap.size _ _ [] bs (fun b => w.heap.size ≤ b ∨ S b) _ rfl rfl ?co (HR.out.alloc _) ?ck ?cn ?cb ?cz ?_)
    case co => exact Ow.mtA (heap_alloc_new _ _) (Nat.le_refl _) (.inl (Nat.le_refl _))
    case ck => exact fun y cs hy => (kActE D).mono (fun b hb => ⟨.inr hb.1, fun e => by have h2 := hb.2; have e' : some b = some w.heap.size := e; injection e' with e'; omega⟩) hy
    case cn => intro b hb; simp at hb; exact .inl (by omega)
    case cb => simpa using hsz
    case cz => simp
    intro v' w2 ho hg _
    have HO := Lib.hid ho
    have HE := Lib.hid (((Ext.refl w).alloc _).grown hg (fun k hk => by simp [Value.ownBlock] at hk; omega))
    clear ho hg
    go_wp2
    go_ret
    exact ⟨_, rfl, HO.out, HE.out⟩
end Go.Proofs.Ytjjhmknlhfijjaa
set_option linter.unusedVariables false
set_option linter.unusedSimpArgs false
namespace Go.Proofs.Ytjjhmknlhfijjaa
open Go.RowKit

/-- What a disk is. -/
structure DkS where
  off : Bool
  left : Int
  keep : Int
  tear : Int
  room : Int
  last : KL Nam
  acts : List ActS
/-- Files behind acts. -/
def runA (L : KL Nam) : List ActS → KL Nam
  | [] => L
  | x :: l => runA (doA L x.k x.data) l
def DkS.seen (s : DkS) : KL Nam := runA s.last s.acts
def costs (l : List ActS) : Nat := (l.map fun x => x.data.length).sum
def DkS.used (s : DkS) : Nat := sumK s.last + costs s.acts
/-- Each act fits where it is done. -/
def fitsA (L : KL Nam) : List ActS → Prop
  | [] => True
  | x :: l => (fitA L x.k ∧ (∀ n ∈ namesA x.k, mayF n = true) ∧ (doA L x.k x.data).length ≤ 4096) ∧ fitsA (doA L x.k x.data) l

/-- The blocks of a disk that turn. -/
def DkM (p b1 b2 : Nat) (av : Value) (k : Nat) : Prop := k = p ∨ k = b1 ∨ k = b2 ∨ av.ownBlock = some k
def dkC (s : DkS) (b1 b2 : Nat) (av : Value) : Array Value := #[.bool s.off, .int .i64 s.left, .int .i64 s.keep, .int .i64 s.tear, .int .i64 s.room, .map (some b1), .map (some b2), av]
/-- What holds of a disk's state always. -/
structure DkOk (s : DkS) : Prop where
  fits : fitsA s.last s.acts
  room : s.used ≤ s.room
  most : s.room ≤ 1073741824
  rise : riseK s.last
  files : s.last.length ≤ 4096
  names : ∀ q ∈ s.last, mayF q.1 = true
  left : 0 ≤ s.left ∧ s.left ≤ 9223372036854775807
  keep : I64 s.keep
  tear : I64 s.tear
/-- The disk at p: M: the blocks that turn, D: those that never do. -/
structure DkY (w : World) (p : Nat) (M D : Nat → Prop) (s : DkS) (b1 b2 : Nat) (av : Value) : Prop where
  blk : w.heap[p]? = some (.cells (dkC s b1 b2 av) 56 (0, 0))
  sees : TabF w b1 D s.seen
  lasts : TabF w b2 D s.last
  acts : ActR w D av s.acts
  inM : ∀ k, DkM p b1 b2 av k → M k
  apart : ∀ k, D k → ¬ M k
  ne : p ≠ b1 ∧ p ≠ b2 ∧ b1 ≠ b2 ∧ av.ownBlock ≠ some p ∧ av.ownBlock ≠ some b1 ∧ av.ownBlock ≠ some b2
  ltM : ∀ k, M k → k < w.heap.size
  ltD : ∀ k, D k → k < w.heap.size
  ok : DkOk s
def DkX (w : World) (p : Nat) (M D : Nat → Prop) (s : DkS) : Prop := ∃ b1 b2 av, DkY w p M D s b1 b2 av
section
variable {w w' : World} {p b1 b2 : Nat} {M D : Nat → Prop} {s : DkS} {av : Value}
theorem DkY.upd (h : DkY w p M D s b1 b2 av) {S : Nat → Prop} (hu : Upd S w w') (hM : ∀ k, M k → ¬ S k) (hD : ∀ k, D k → ¬ S k) : DkY w' p M D s b1 b2 av where
  blk := blk_upd h.blk hu (hM p (h.inM p (.inl rfl)))
  sees := h.sees.upd hu (hM b1 (h.inM b1 (.inr (.inl rfl)))) hD
  lasts := h.lasts.upd hu (hM b2 (h.inM b2 (.inr (.inr (.inl rfl))))) hD
  acts := h.acts.upd hu hD fun k e => hM k (h.inM k (.inr (.inr (.inr e))))
  inM := h.inM
  apart := h.apart
  ne := h.ne
  ltM := fun k hk => Nat.lt_of_lt_of_le (h.ltM k hk) hu.le
  ltD := fun k hk => Nat.lt_of_lt_of_le (h.ltD k hk) hu.le
  ok := h.ok
theorem DkY.ext (h : DkY w p M D s b1 b2 av) (he : Ext w w') : DkY w' p M D s b1 b2 av := h.upd (he.upd fun _ => False) (fun _ _ h => h) (fun _ _ h => h)
/-- The block alone has turned, its tables and acts are the same. -/
theorem DkY.turn (h : DkY w p M D s b1 b2 av) (hu : Upd (fun k => k = p) w w') {s' : DkS} (hl : s'.last = s.last) (ha : s'.acts = s.acts) (hb : w'.heap[p]? = some (.cells (dkC s' b1 b2 av) 56 (0, 0))) (hok : DkOk s') : DkY w' p M D s' b1 b2 av where
  blk := hb
  sees := by
    unfold DkS.seen
    rw [hl, ha]
    exact h.sees.upd hu (fun e => h.ne.1 e.symm) (fun k hk e => h.apart k hk (h.inM k (.inl e)))
  lasts := by
    rw [hl]
    exact h.lasts.upd hu (fun e => h.ne.2.1 e.symm) (fun k hk e => h.apart k hk (h.inM k (.inl e)))
  acts := by
    rw [ha]
    exact h.acts.upd hu (fun k hk e => h.apart k hk (h.inM k (.inl e))) fun k e2 e => h.ne.2.2.2.1 (e ▸ e2)
  inM := h.inM
  apart := h.apart
  ne := h.ne
  ltM := fun k hk => Nat.lt_of_lt_of_le (h.ltM k hk) hu.le
  ltD := fun k hk => Nat.lt_of_lt_of_le (h.ltD k hk) hu.le
  ok := hok
end
/-- What a step may do. -/
def DkT (w w' : World) (M D M' D' : Nat → Prop) : Prop := Upd M w w' ∧ (∀ k, M' k → M k ∨ w.heap.size ≤ k) ∧ ∀ k, D' k → D k ∨ w.heap.size ≤ k
end Go.Proofs.Ytjjhmknlhfijjaa
