/-
  Texts of this claim, put together: TurnKit, TurnR, Turn.
-/
import Derived.Test.YtfflcnlgkbgbhaaZ21
import Derived.Test.YtfflcnlgkbgbhaaZ4
import Derived.Test.YtfflcnlgkbgbhaaZ13
set_option linter.unusedVariables false
set_option linter.unusedSimpArgs false
namespace Go.Proofs.Ytfflcnlgkbgbhaa
open Go.RowKit

theorem xor_byte (X : UInt8) : ∃ z : UInt8, bits .xor .u8 (X.toNat : Int) 255 = (z.toNat : Int) := by
  have hX := X.toNat_lt
  have hxl : X.toNat ^^^ 255 < 256 := Nat.xor_lt_two_pow (n := 8) (by omega) (by omega)
  have hv : ∀ a : Nat, a < 256 → (BitVec.ofInt 8 (a : Int)).toNat = a := fun a ha => by
    rw [BitVec.ofInt_natCast, BitVec.toNat_ofNat]; exact Nat.mod_eq_of_lt (by omega)
  have hz : (byt (X.toNat ^^^ 255)).toNat = X.toNat ^^^ 255 := by rw [byt_toNat]; omega
  refine ⟨byt (X.toNat ^^^ 255), ?_⟩
  show IntKind.u8.wrap ((BitVec.ofInt 8 (X.toNat : Int) ^^^ BitVec.ofInt 8 ((255 : Nat) : Int)).toNat : Int) = _
  rw [BitVec.toNat_xor, hv _ (by omega), hv _ (by omega), IntKind.wrap_u8, hz]
  omega

section
variable {α : Type} {P : α → Prop} {enc : α → Value} {h1 : ∀ x, (enc x).oneCell' = true} {w w' : World} {S : Nat → Prop} {v : Value} {xs : List α} {base : Nat} {e : TypeId}
/-- A row of scalars lies in its own block alone. -/
theorem Ow.tight (h : Ow (Kd.scalar P enc h1) e w base S v xs) : Ow (Kd.scalar P enc h1) e w base (fun b => v.ownBlock = some b) v xs :=
  Ow.of_srow h.srow.1 h.2.1 (fun k hk => hk) h.srow.2
end
/-- A byte stored somewhere: a row of bytes stays one. -/
theorem Ow.byte_store {w : World} {S : Nat → Prop} {v : Value} {xs : List UInt8} {base : Nat} {e : TypeId} (h : Ow kByte e w base S v xs) (g k : Nat) (z : UInt8) :
    ∃ ys : List UInt8, ys.length = xs.length ∧ Ow kByte e (w.setCell ⟨g, k, none⟩ (.int .u8 (z.toNat : Int))) base S v ys := by
  have hS := h.1
  have ht : Ow kByte e w base (fun b => v.ownBlock = some b) v xs := Ow.tight (P := fun _ => True) (enc := fun b : UInt8 => .int .u8 (b.toNat : Int)) (h1 := fun _ => rfl) h
  by_cases hg : v.ownBlock = some g
  · rcases Nat.eq_zero_or_pos xs.length with h0 | h0
    · have hx : xs = [] := List.eq_nil_of_length_eq_zero h0
      subst hx
      refine ⟨[], rfl, ?_⟩
      have hr := h.2
      obtain ⟨_, cells, ho, _⟩ := hr
      rcases ho.2 with ⟨rfl, h3⟩ | ⟨g', cap, cur, rfl, hb, hh, hn, hm, hs, hc⟩
      · exact Ow.nil _ _ _ _ _
      · have : g' = g := by simpa [Value.ownBlock] using hg
        subst this
        exact Ow.shut (xs := []) _ (heap_setCell_same w g' k cur e _ hh) hb (hS g' rfl) (by simp) hm (by simpa using hs) (by simp) (fun j x hj => by simp at hj)
    · obtain ⟨g', cap, rfl, hb, hl, hc, hSg⟩ := h.form h0
      have : g' = g := by simpa [Value.ownBlock] using hg
      subst this
      by_cases hk : k < xs.length
      · exact ⟨xs.set k z, List.length_set, (h.sset (P := fun _ => True) (enc := fun b : UInt8 => .int .u8 (b.toNat : Int)) (h1 := fun _ => rfl) k z trivial).1⟩
      · obtain ⟨cur, hh, hb, hS', hn, hm, hs, hx⟩ := h.open_
        refine ⟨xs, rfl, Ow.shut _ (heap_setCell_same w g' k cur e _ hh) hb hS' hn hm (by simpa using hs) h.2.1 fun j x hj => ?_⟩
        have hj1 := (List.getElem?_eq_some_iff.1 hj).1
        have h3 := hx j x hj
        have hz1 : kByte.sz = 1 := rfl
        rw [Array.toList_setIfInBounds, hz1, Nat.mul_one, List.drop_set, if_neg (by omega), List.take_set_of_le (by omega)]
        rw [hz1, Nat.mul_one] at h3
        exact h3
  · exact ⟨xs, rfl, (ht.keep fun b hb hl => heap_setCell_other w ⟨g, k, none⟩ b _ (fun e' => hg (by have e2 : b = g := e'; rw [← e2]; exact hb))).mono fun b hb => hS b hb⟩
/-- The same lengths. -/
def SameL (a b : List EntS) : Prop := a.length = b.length ∧ ∀ (j : Nat) (x y : EntS), a[j]? = some x → b[j]? = some y → x.data.length = y.data.length
theorem SameL.refl (a : List EntS) : SameL a a := ⟨rfl, fun j x y h1 h2 => by rw [h1] at h2; injection h2 with h2; rw [h2]⟩
theorem SameL.trans {a b c : List EntS} (h : SameL a b) (k : SameL b c) : SameL a c :=
  ⟨h.1.trans k.1, fun j x z hx hz => by
    have hj := (List.getElem?_eq_some_iff.1 hx).1
    have hy := List.getElem?_eq_getElem (l := b) (i := j) (by rw [← h.1]; exact hj)
    exact (h.2 j x _ hx hy).trans (k.2 j _ z hy hz)⟩
theorem ex_list {α : Type} (Q : Nat → α → Prop) : ∀ n : Nat, (∀ j, j < n → ∃ y, Q j y) → ∃ ys : List α, ys.length = n ∧ ∀ j y, ys[j]? = some y → Q j y
  | 0, _ => ⟨[], rfl, fun j y h => by simp at h⟩
  | n + 1, h => by
    obtain ⟨ys, h1, h2⟩ := ex_list Q n fun j hj => h j (by omega)
    obtain ⟨y, hy⟩ := h n (by omega)
    refine ⟨ys ++ [y], by simp [h1], fun j z hz => ?_⟩
    rcases Nat.lt_or_ge j ys.length with h3 | h3
    · rw [List.getElem?_append_left h3] at hz; exact h2 j z hz
    · rw [List.getElem?_append_right h3] at hz
      have hj : j = n := by
        rcases Nat.lt_or_ge (j - ys.length) 1 with h4 | h4
        · omega
        · rw [List.getElem?_eq_none (by simpa using h4)] at hz; cases hz
      subst hj
      rw [h1, Nat.sub_self] at hz
      simp at hz
      rw [← hz]; exact hy
theorem Ow.ents_store {w : World} {S : Nat → Prop} {ve : Value} {es : List EntS} {b2 : Nat} (h : Ow (kEntO b2) 71 w b2 S ve es) (g k : Nat) (z : UInt8) (hg : ve.ownBlock ≠ some g) :
    ∃ es', SameL es' es ∧ Ow (kEntO b2) 71 (w.setCell ⟨g, k, none⟩ (.int .u8 (z.toNat : Int))) b2 S ve es' := by
  rcases Nat.eq_zero_or_pos es.length with h0 | h0
  · have hx : es = [] := List.eq_nil_of_length_eq_zero h0
    subst hx
    obtain ⟨h1, h2, cells, ho, _⟩ := h
    refine ⟨[], SameL.refl _, h1, by simp, cells, ownsRow_move ho (fun k' hk => heap_setCell_other w ⟨g, k, none⟩ k' _ (fun e => hg (by have e2 : k' = g := e; rw [← e2]; exact hk))), fun j x hj => by simp at hj⟩
  · obtain ⟨ge, cap, rfl, hb, hl, hc, hSg⟩ := h.form h0
    have hz := h.2.1
    have hne : ge ≠ g := fun e => hg (by show some ge = some g; rw [e])
    obtain ⟨cur, hh, hb, hS', hn, hm, hs, hx⟩ := h.open_
    have hh2 : (w.setCell ⟨g, k, none⟩ (.int .u8 (z.toNat : Int))).heap[ge]? = some (.cells cur 71 (0, 0)) := (heap_setCell_other w ⟨g, k, none⟩ ge _ hne).trans hh
    obtain ⟨ys, hy1, hy2⟩ := ex_list (fun j (y : EntS) => (∀ x, es[j]? = some x → y.data.length = x.data.length) ∧ (kEntO b2).K (w.setCell ⟨g, k, none⟩ (.int .u8 (z.toNat : Int))) (fun b => S b ∧ b ≠ ge) y ((cur.toList.drop (j * 3)).take 3)) es.length (fun j hj => by
      have h3 := hx j _ (List.getElem?_eq_getElem hj)
      obtain ⟨vd, hcs, hd, hi, ht⟩ := kEntO_iff.1 h3
      obtain ⟨zs, hz1, hz2⟩ := hd.byte_store g k z
      refine ⟨⟨es[j].index, es[j].term, zs⟩, fun x hxx => ?_, ?_⟩
      · rw [List.getElem?_eq_getElem hj] at hxx
        injection hxx with hxx
        rw [← hxx]; exact hz1
      · have hcs' : ((cur.toList.drop (j * 3)).take 3) = [.int .i64 es[j].index, .int .i64 es[j].term, vd] := hcs
        rw [hcs']
        exact kEntO_iff.2 ⟨vd, rfl, hz2, hi, ht⟩)
    refine ⟨ys, ⟨hy1, fun j x y hjx hjy => (hy2 j x hjx).1 y hjy⟩, ?_⟩
    have h4 := Ow.shut (d := kEntO b2) (S := S) (base := b2) (xs := ys) (cap := cap) cur hh2 hb hS' (by rw [hy1]; exact hn) hm hs (by rw [hy1]; exact hz) fun j x hj => (hy2 j x hj).2
    rw [hy1] at h4
    exact h4
end Go.Proofs.Ytfflcnlgkbgbhaa
set_option linter.unusedVariables false
set_option linter.unusedSimpArgs false
namespace Go.Proofs.Ytfflcnlgkbgbhaa
open Go.RowKit

def TurnR (W : World) (base b1 b2 top q : Nat) (m : MsgS) (ve vv vd : Value) : Prop :=
  W.heap[q]? = some (.cells (msgC m ve vv vd) 26 (0, 0)) ∧ (base ≤ b1 ∧ top ≤ q) ∧ b1 ≤ b2 ∧
  ∃ (es : List EntS) (vs : List Int) (ds : List UInt8), SameL es m.entries ∧ vs.length = m.voters.length ∧ ds.length = m.data.length ∧
    Ow (kEntO b2) 71 W b2 (fun b => b2 ≤ b ∧ b < top) ve es ∧ Ow kInt 3 W base (fun b => (base ≤ b ∧ b < b1) ∧ b < top) vv vs ∧ Ow kByte 5 W b1 (fun b => (b1 ≤ b ∧ b < b2) ∧ b < top) vd ds
section
variable {W W' : World} {base b1 b2 top q : Nat} {m : MsgS} {ve vv vd : Value}
theorem TurnR.ext (h : TurnR W base b1 b2 top q m ve vv vd) (he : Ext W W') : TurnR W' base b1 b2 top q m ve vv vd := by
  obtain ⟨h1, h2, h3, es, vs, ds, h4, h5, h6, h7, h8, h9⟩ := h
  exact ⟨blk_ext h1 he, h2, h3, es, vs, ds, h4, h5, h6, h7.ext he, h8.ext he, h9.ext he⟩
theorem upd_set1 {S : Nat → Prop} (W : World) (g i : Nat) (u : Value) (hg : S g) : Upd S W (W.setCell ⟨g, i, none⟩ u) := Upd.set (Upd.refl _ _) (.inl hg) u
theorem TurnR.vote (h : TurnR W base b1 b2 top q m ve vv vd) {k : Nat} (hk : k < m.voters.length) :
    ∃ gv cap x, vv = .slice (some ⟨gv, 0, none⟩) m.voters.length cap ∧ W.cell? ⟨gv, k, none⟩ = some (.int .i64 x) ∧ W.frozen? ⟨gv, k, none⟩ = false ∧
      TurnR (W.setCell ⟨gv, k, none⟩ (.int .i64 (-7))) base b1 b2 top q m ve vv vd ∧ Upd (fun b => base ≤ b ∧ b < top) W (W.setCell ⟨gv, k, none⟩ (.int .i64 (-7))) := by
  obtain ⟨h1, h2, h3, es, vs, ds, h4, h5, h6, h7, h8, h9⟩ := h
  obtain ⟨g, cap, e, hb, hl, hc, ⟨hS1, hS2⟩, hS3⟩ := h8.form (by omega)
  subst e
  have hs := h8.scell k (by omega)
  have hp := h8.sset (P := I64) (enc := fun n => .int .i64 n) (h1 := fun _ => rfl) k (-7) (by unfold I64; omega)
  have hu : Upd (fun b => b = g) W (W.setCell ⟨g, k, none⟩ (.int .i64 (-7))) := upd_set1 W g k _ rfl
  refine ⟨g, cap, _, by rw [h5], hs.1, hs.2, ⟨blk_upd h1 hu (by omega), h2, h3, es, vs.set k (-7), ds, h4, by simpa using h5, h6, h7.upd hu fun b hb e => by have e' : b = g := e; omega, hp.1, h9.upd hu fun b hb e => by have e' : b = g := e; omega⟩, hu.mono fun b e => by have e' : b = g := e; omega⟩
theorem TurnR.byte (h : TurnR W base b1 b2 top q m ve vv vd) {k : Nat} (hk : k < m.data.length) :
    ∃ (gd cap : Nat) (X : UInt8), vd = .slice (some ⟨gd, 0, none⟩) m.data.length cap ∧ W.cell? ⟨gd, k, none⟩ = some (.int .u8 (X.toNat : Int)) ∧ W.frozen? ⟨gd, k, none⟩ = false ∧
      ∀ z : UInt8, TurnR (W.setCell ⟨gd, k, none⟩ (.int .u8 (z.toNat : Int))) base b1 b2 top q m ve vv vd ∧ Upd (fun b => base ≤ b ∧ b < top) W (W.setCell ⟨gd, k, none⟩ (.int .u8 (z.toNat : Int))) := by
  obtain ⟨h1, h2, h3, es, vs, ds, h4, h5, h6, h7, h8, h9⟩ := h
  obtain ⟨g, cap, e, hb, hl, hc, ⟨hS1, hS2⟩, hS3⟩ := h9.form (by omega)
  subst e
  have hs := h9.scell k (by omega)
  refine ⟨g, cap, _, by rw [h6], hs.1, hs.2, fun z => ?_⟩
  have hp := h9.sset (P := fun _ => True) (enc := fun b : UInt8 => .int .u8 (b.toNat : Int)) (h1 := fun _ => rfl) k z trivial
  have hu : Upd (fun b => b = g) W (W.setCell ⟨g, k, none⟩ (.int .u8 (z.toNat : Int))) := upd_set1 W g k _ rfl
  refine ⟨⟨blk_upd h1 hu (by omega), h2, h3, es, vs, ds.set k z, h4, h5, by simpa using h6, h7.upd hu fun b hb e => by have e' : b = g := e; omega, h8.upd hu fun b hb e => by have e' : b = g := e; omega, hp.1⟩, hu.mono fun b e => by have e' : b = g := e; omega⟩
/-- An entry's cells. -/
theorem Ow.ent_at {S : Nat → Prop} {ge cap : Nat} {es : List EntS} (h : Ow (kEntO b2) 71 W b2 S (.slice (some ⟨ge, 0, none⟩) es.length cap) es) {k : Nat} (hk : k < es.length) :
    ∃ A c, W.cell? ⟨ge, k * 3 + 2, none⟩ = some (.slice A es[k].data.length c) ∧ (∃ x, W.cell? ⟨ge, k * 3 + 1, none⟩ = some (.int .i64 x)) ∧ W.frozen? ⟨ge, k * 3 + 1, none⟩ = false ∧
      Ow kByte 5 W b2 (fun b => S b ∧ b ≠ ge) (.slice A es[k].data.length c) es[k].data := by
  obtain ⟨cur, hh, hb, hS', hn, hm, hs, hx⟩ := h.open_
  obtain ⟨vd, hcs, hd, hi, ht⟩ := kEntO_iff.1 (hx k _ (List.getElem?_eq_getElem hk))
  obtain ⟨A, c, e, _⟩ := id hd.rs
  subst e
  have hcs' : ((cur.toList.drop (k * 3)).take 3) = [.int .i64 es[k].index, .int .i64 es[k].term, .slice A es[k].data.length c] := hcs
  have h2 := congrArg (fun l => l[2]?) hcs'
  have h1 := congrArg (fun l => l[1]?) hcs'
  simp only [List.getElem?_take, List.getElem?_drop] at h1 h2
  rw [if_pos (by omega), Array.getElem?_toList] at h1 h2
  exact ⟨A, c, (cell_blk hh _).trans h2, ⟨_, (cell_blk hh _).trans h1⟩, frozen_blk hh _, hd⟩
theorem TurnR.elen (h : TurnR W base b1 b2 top q m ve vv vd) {k : Nat} (hk : k < m.entries.length) :
    ∃ ge cap A c, ve = .slice (some ⟨ge, 0, none⟩) m.entries.length cap ∧ W.cell? ⟨ge, k * 3 + 2, none⟩ = some (.slice A m.entries[k].data.length c) ∧ m.entries[k].data.length ≤ 140737488355328 := by
  obtain ⟨h1, h2, h3, es, vs, ds, h4, h5, h6, h7, h8, h9⟩ := h
  have hk' : k < es.length := by have := h4.1; omega
  obtain ⟨g, cap, e, hb, hl, hc, hS⟩ := h7.form (by omega)
  subst e
  obtain ⟨A, c, hc2, _, _, hd⟩ := h7.ent_at hk'
  have hl := h4.2 k _ _ (List.getElem?_eq_getElem hk') (List.getElem?_eq_getElem hk)
  exact ⟨g, cap, A, c, by rw [h4.1], by rw [← hl]; exact hc2, by rw [← hl]; exact hd.2.1⟩
theorem TurnR.ebyte (h : TurnR W base b1 b2 top q m ve vv vd) {k : Nat} (hk : k < m.entries.length) {j : Nat} (hj : j < m.entries[k].data.length) :
    ∃ (ge cap gd cd : Nat) (X : UInt8), ve = .slice (some ⟨ge, 0, none⟩) m.entries.length cap ∧ W.cell? ⟨ge, k * 3 + 2, none⟩ = some (.slice (some ⟨gd, 0, none⟩) m.entries[k].data.length cd) ∧ W.cell? ⟨gd, j, none⟩ = some (.int .u8 (X.toNat : Int)) ∧ W.frozen? ⟨gd, j, none⟩ = false ∧
      ∀ z : UInt8, TurnR (W.setCell ⟨gd, j, none⟩ (.int .u8 (z.toNat : Int))) base b1 b2 top q m ve vv vd ∧ Upd (fun b => base ≤ b ∧ b < top) W (W.setCell ⟨gd, j, none⟩ (.int .u8 (z.toNat : Int))) := by
  obtain ⟨h1, h2, h3, es, vs, ds, h4, h5, h6, h7, h8, h9⟩ := h
  have hk' : k < es.length := by have := h4.1; omega
  obtain ⟨g, cap, e, hb, hl, hc, hS⟩ := h7.form (by omega)
  subst e
  obtain ⟨A, c, hc2, _, _, hd⟩ := h7.ent_at hk'
  have hl := h4.2 k _ _ (List.getElem?_eq_getElem hk') (List.getElem?_eq_getElem hk)
  obtain ⟨gd, cd, e, hb', hl', hc', ⟨hS1, hS2⟩, hS3⟩ := hd.form (by omega)
  injection e with e1 e2 e3
  subst e1; subst e3
  have hs := hd.scell j (by omega)
  refine ⟨g, cap, gd, c, _, by rw [h4.1], by rw [← hl]; exact hc2, hs.1, hs.2, fun z => ?_⟩
  have hu : Upd (fun b => b = gd) W (W.setCell ⟨gd, j, none⟩ (.int .u8 (z.toNat : Int))) := upd_set1 W gd j _ rfl
  obtain ⟨es', he1, he2⟩ := h7.ents_store gd j z (fun e => by simp [Value.ownBlock] at e; exact hS3 e.symm)
  exact ⟨⟨blk_upd h1 hu (by omega), h2, h3, es', vs, ds, he1.trans h4, h5, h6, he2, h8.upd hu fun b hb e => by have e' : b = gd := e; omega, h9.upd hu fun b hb e => by have e' : b = gd := e; omega⟩, hu.mono fun b e => by have e' : b = gd := e; omega⟩
theorem TurnR.term (h : TurnR W base b1 b2 top q m ve vv vd) {k : Nat} (hk : k < m.entries.length) :
    ∃ ge cap x, ve = .slice (some ⟨ge, 0, none⟩) m.entries.length cap ∧ W.cell? ⟨ge, k * 3 + 1, none⟩ = some (.int .i64 x) ∧ W.frozen? ⟨ge, k * 3 + 1, none⟩ = false ∧
      TurnR (W.setCell ⟨ge, k * 3 + 1, none⟩ (.int .i64 (-7))) base b1 b2 top q m ve vv vd ∧ Upd (fun b => base ≤ b ∧ b < top) W (W.setCell ⟨ge, k * 3 + 1, none⟩ (.int .i64 (-7))) := by
  obtain ⟨h1, h2, h3, es, vs, ds, h4, h5, h6, h7, h8, h9⟩ := h
  have hk' : k < es.length := by have := h4.1; omega
  obtain ⟨g, cap, e, hb, hl, hc, hS⟩ := h7.form (by omega)
  subst e
  obtain ⟨A, c, _, ⟨x, hc1⟩, hf, hd⟩ := h7.ent_at hk'
  have hp := h7.put k 1 hk' (show 1 < 3 by omega) (.int .i64 (-7)) ⟨es[k].index, -7, es[k].data⟩ (fun cs hcs => by
    obtain ⟨v, rfl, hd, hi, _⟩ := kEntO_iff.1 hcs
    exact kEntO_iff.2 ⟨v, rfl, hd, hi, by unfold I64; simp only; omega⟩)
  have hu : Upd (fun b => b = g) W (W.setCell ⟨g, k * 3 + 1, none⟩ (.int .i64 (-7))) := upd_set1 W g _ _ rfl
  refine ⟨g, cap, x, by rw [h4.1], hc1, hf, ⟨blk_upd h1 hu (by omega), h2, h3, es.set k ⟨es[k].index, -7, es[k].data⟩, vs, ds, ?_, h5, h6, hp.1, h8.upd hu fun b hb e => by have e' : b = g := e; omega, h9.upd hu fun b hb e => by have e' : b = g := e; omega⟩, hu.mono fun b e => by have e' : b = g := e; omega⟩
  refine SameL.trans ⟨List.length_set, fun j x y hx hy => ?_⟩ h4
  rw [List.getElem?_set] at hx
  by_cases hjk : k = j
  · subst hjk
    rw [if_pos rfl, if_pos hk'] at hx
    injection hx with hx
    rw [List.getElem?_eq_getElem hk'] at hy
    injection hy with hy
    rw [← hx, ← hy]
  · rw [if_neg hjk, hy] at hx
    injection hx with hx
    rw [hx]
end
end Go.Proofs.Ytfflcnlgkbgbhaa
set_option linter.unusedVariables false
set_option linter.unusedSimpArgs false
namespace Go.Proofs.Ytfflcnlgkbgbhaa
open Go.RowKit

/-- A message's own memory, between two blocks. -/
def MsgB (w : World) (lo hi : Nat) (v : Value) (m : MsgS) : Prop :=
  ∃ b1 b2 ve vv vd, lo ≤ b1 ∧ b1 ≤ b2 ∧ v = .agg (msgC m ve vv vd) ∧ Ow (kEntO b2) 71 w b2 (fun b => b2 ≤ b ∧ b < hi) ve m.entries ∧ Ow kInt 3 w lo (fun b => (lo ≤ b ∧ b < b1) ∧ b < hi) vv m.voters ∧ Ow kByte 5 w b1 (fun b => (b1 ≤ b ∧ b < b2) ∧ b < hi) vd m.data ∧ MsgI m
theorem MsgO.b {w : World} {lo : Nat} {v : Value} {m : MsgS} (h : MsgO w lo v m) : MsgB w lo w.heap.size v m := by
  obtain ⟨b1, b2, ve, vv, vd, hb1, hb2, e, h1, h2, h3, h4⟩ := h
  exact ⟨b1, b2, ve, vv, vd, hb1, hb2, e, h1.bound, h2.bound, h3.bound, h4⟩
theorem MsgB.v {w : World} {lo hi : Nat} {v : Value} {m : MsgS} (h : MsgB w lo hi v m) : MsgV w (fun b => lo ≤ b ∧ b < hi) v m := by
  obtain ⟨b1, b2, ve, vv, vd, hb1, hb2, rfl, h1, h2, h3, h4⟩ := h
  exact ⟨ve, vv, vd, rfl, h1.rs.ents_own.mono fun b hb => by omega, h2.rs.mono fun b hb => by omega, h3.rs.mono fun b hb => by omega, h4⟩
theorem MsgB.keep {w w' : World} {lo hi : Nat} {v : Value} {m : MsgS} (h : MsgB w lo hi v m) (hk : ∀ b, lo ≤ b → b < hi → b < w.heap.size → w'.heap[b]? = w.heap[b]?) : MsgB w' lo hi v m := by
  obtain ⟨b1, b2, ve, vv, vd, hb1, hb2, rfl, h1, h2, h3, h4⟩ := h
  exact ⟨b1, b2, ve, vv, vd, hb1, hb2, rfl, h1.keep fun b hb => hk b (by omega) (by omega), h2.keep fun b hb => hk b (by omega) (by omega), h3.keep fun b hb => hk b (by omega) (by omega), h4⟩
theorem MsgB.ext {w w' : World} {lo hi : Nat} {v : Value} {m : MsgS} (h : MsgB w lo hi v m) (he : Ext w w') : MsgB w' lo hi v m := h.keep fun b _ _ hb => he.block b hb
theorem MsgB.upd {w w' : World} {lo hi : Nat} {v : Value} {m : MsgS} {S : Nat → Prop} (h : MsgB w lo hi v m) (hu : Upd S w w') (hd : ∀ b, lo ≤ b → b < hi → ¬ S b) : MsgB w' lo hi v m := h.keep fun b h1 h2 hb => hu.block b hb (hd b h1 h2)
theorem MsgB.turnR {w W : World} {base top q : Nat} {v : Value} {m : MsgS} {ve vv vd : Value} (h : MsgB w base top v m) (hq : q = w.heap.size) (htop : top ≤ w.heap.size) (hv : v = .agg (msgC m ve vv vd)) (he : Ext w W) (hb : W.heap[q]? = some (.cells (msgC m ve vv vd) 26 (0, 0))) :
    ∃ b1 b2, TurnR W base b1 b2 top q m ve vv vd := by
  obtain ⟨b1, b2, ve', vv', vd', hb1, hb2, e, h1, h2, h3, h4⟩ := h
  subst hq
  rw [hv] at e
  have e' := Value.agg.inj e
  unfold msgC at e'
  have e1 := congrArg (fun (a : Array Value) => a[10]?) e'
  have e2 := congrArg (fun (a : Array Value) => a[11]?) e'
  have e3 := congrArg (fun (a : Array Value) => a[12]?) e'
  simp at e1 e2 e3
  subst e1; subst e2; subst e3
  exact ⟨b1, b2, hb, ⟨hb1, htop⟩, hb2, _, _, _, SameL.refl _, rfl, rfl, h1.ext he, h2.ext he, h3.ext he⟩

set_option maxRecDepth 1000000 in
set_option maxHeartbeats 8000000 in
theorem turn_calls (w : World) (base top : Nat) (v : Value) (m : MsgS) (hm : MsgB w base top v m) (htop : top ≤ w.heap.size) :
    Calls Try.prog 32 #[v] w fun e w' => e = .returned (.tuple #[]) ∧ Upd (fun b => base ≤ b ∧ b < top) w w' := by
  obtain ⟨Ae, ce, Av, cv, Ad, cd, hv, he0, hv0, hd0, -⟩ := hm.v.form
  have hze : m.entries.length ≤ 140737488355328 := let ⟨_, _, _, _, _, h, _⟩ := he0; h
  have hzv : m.voters.length ≤ 140737488355328 := let ⟨_, _, _, _, _, h, _⟩ := hv0; h
  have hzd : m.data.length ≤ 140737488355328 := let ⟨_, _, _, _, _, h, _⟩ := hd0; h
  have HM := Lib.hid hm
  have HV := Lib.hid hv
  subst hv
  clear hm he0 hv0 hd0
  dsimp only [msgC]
  go_enter Try.func32, Try.ntmps32
  go_upto_region 1 with fail
  obtain ⟨w1, hw1⟩ : ∃ w1, w1 = w.alloc (.cells (msgC m (.slice Ae m.entries.length ce) (.slice Av m.voters.length cv) (.slice Ad m.data.length cd)) 26) := ⟨_, rfl⟩
  have HX1 := Lib.hid (show Ext w w1 by rw [hw1]; exact (Ext.refl w).alloc _)
  obtain ⟨q, hq⟩ : ∃ q, q = w.heap.size := ⟨_, rfl⟩
  obtain ⟨b1, b2, ht⟩ := HM.out.turnR hq htop HV.out HX1.out (by rw [hq, hw1]; exact heap_new w _ rfl _)
  have HT1 := Lib.hid ht
  have HU1 := Lib.hid (HX1.out.upd (fun b => base ≤ b ∧ b < top))
  unfold msgC at hw1
  rw [← hw1, ← hq]
  clear hw1 ht HM HX1 hq HV htop
  have hc := cell_blk HT1.out.1 11
  simp only [msgC, List.getElem?_toArray, List.getElem?_cons_zero, List.getElem?_cons_succ] at hc
  go_wp2_with fail
  clear hc
  go_loopw [9] (fun i wr => ∃ k : Nat, k ≤ m.voters.length ∧ i = .int .i64 k ∧ Hid (TurnR wr base b1 b2 top q m (.slice Ae m.entries.length ce) (.slice Av m.voters.length cv) (.slice Ad m.data.length cd)) ∧ Hid (Upd (fun b => base ≤ b ∧ b < top) w wr)) (fun i _ => m.voters.length - (intOf i).toNat)
  case atStart => exact ⟨0, Nat.zero_le _, rfl, HT1, HU1⟩
  case round =>
    clear HT1 HU1
    obtain ⟨k, hk, rfl, HT, HU⟩ := hrel
    by_cases hlt : k < m.voters.length
    · have hc := cell_blk HT.out.1 11
      simp only [msgC, List.getElem?_toArray, List.getElem?_cons_zero, List.getElem?_cons_succ] at hc
      obtain ⟨gv, cap, x, e, hc1, hf1, ht, hu⟩ := HT.out.vote hlt
      injection e with e1 e2 e3
      subst e1; subst e3
      have HT2 := Lib.hid ht
      have HU2 := Lib.hid (HU.out.trans hu)
      clear ht hu HT HU
      go_wp2_with fail
      go_roundw
      case rel => exact ⟨k + 1, by omega, by go_num, HT2, HU2⟩
      case measure => simp [intOf]; omega
    · obtain rfl : k = m.voters.length := by omega
      clear hlt
      have hc := cell_blk HT.out.1 12
      simp only [msgC, List.getElem?_toArray, List.getElem?_cons_zero, List.getElem?_cons_succ] at hc
      go_wp2_with fail
      clear hc
      go_loopw [20] (fun i wr => ∃ k : Nat, k ≤ m.data.length ∧ i = .int .i64 k ∧ Hid (TurnR wr base b1 b2 top q m (.slice Ae m.entries.length ce) (.slice Av m.voters.length cv) (.slice Ad m.data.length cd)) ∧ Hid (Upd (fun b => base ≤ b ∧ b < top) w wr)) (fun i _ => m.data.length - (intOf i).toNat)
      case atStart => exact ⟨0, Nat.zero_le _, rfl, HT, HU⟩
      case round =>
        clear HT HU
        obtain ⟨k, hk, rfl, HT, HU⟩ := hrel
        by_cases hlt : k < m.data.length
        · have hc := cell_blk HT.out.1 12
          simp only [msgC, List.getElem?_toArray, List.getElem?_cons_zero, List.getElem?_cons_succ] at hc
          obtain ⟨gd, cap, X, e, hc1, hf1, ht⟩ := HT.out.byte hlt
          injection e with e1 e2 e3
          subst e1; subst e3
          obtain ⟨z, hz⟩ := xor_byte X
          have HT2 := Lib.hid (ht z).1
          have HU2 := Lib.hid (HU.out.trans (ht z).2)
          clear ht HT HU
          go_wp2_with fail
          (try rw [hz])
          go_roundw
          case rel => exact ⟨k + 1, by omega, by go_num, HT2, HU2⟩
          case measure => simp [intOf]; omega
        · obtain rfl : k = m.data.length := by omega
          clear hlt
          have hc := cell_blk HT.out.1 10
          simp only [msgC, List.getElem?_toArray, List.getElem?_cons_zero, List.getElem?_cons_succ] at hc
          go_wp2_with fail
          clear hc
          go_loopw [34] (fun i wr => ∃ k : Nat, k ≤ m.entries.length ∧ i = .int .i64 k ∧ Hid (TurnR wr base b1 b2 top q m (.slice Ae m.entries.length ce) (.slice Av m.voters.length cv) (.slice Ad m.data.length cd)) ∧ Hid (Upd (fun b => base ≤ b ∧ b < top) w wr)) (fun i _ => m.entries.length - (intOf i).toNat)
          case atStart => exact ⟨0, Nat.zero_le _, rfl, HT, HU⟩
          case round =>
            clear HT HU
            obtain ⟨k, hk, rfl, HT, HU⟩ := hrel
            by_cases hlt : k < m.entries.length
            · have hc := cell_blk HT.out.1 10
              simp only [msgC, List.getElem?_toArray, List.getElem?_cons_zero, List.getElem?_cons_succ] at hc
              obtain ⟨ge, cap, A, c, e, hc2, hL⟩ := HT.out.elen hlt
              injection e with e1 e2 e3
              subst e1; subst e3
              go_wp2_with fail
              clear hc hc2
              go_loopw [44] (fun i wr => ∃ j : Nat, j ≤ m.entries[k].data.length ∧ i = .int .i64 j ∧ Hid (TurnR wr base b1 b2 top q m (.slice (some ⟨ge, 0, none⟩) m.entries.length ce) (.slice Av m.voters.length cv) (.slice Ad m.data.length cd)) ∧ Hid (Upd (fun b => base ≤ b ∧ b < top) w wr)) (fun i _ => m.entries[k].data.length - (intOf i).toNat)
              case atStart => exact ⟨0, Nat.zero_le _, rfl, HT, HU⟩
              case round =>
                clear HT HU
                obtain ⟨j, hj, rfl, HT, HU⟩ := hrel
                have hc := cell_blk HT.out.1 10
                simp only [msgC, List.getElem?_toArray, List.getElem?_cons_zero, List.getElem?_cons_succ] at hc
                by_cases hjl : j < m.entries[k].data.length
                · obtain ⟨ge', cap, gd, cd2, X, e, hc2, hc1, hf1, ht⟩ := HT.out.ebyte hlt hjl
                  injection e with e1 e2 e3
                  injection e1 with e1
                  injection e1 with e1
                  subst e1; subst e3
                  obtain ⟨z, hz⟩ := xor_byte X
                  have HT2 := Lib.hid (ht z).1
                  have HU2 := Lib.hid (HU.out.trans (ht z).2)
                  clear ht HT HU
                  go_wp2_with fail
                  (try rw [hz])
                  go_roundw
                  case rel => exact ⟨j + 1, by omega, by go_num, HT2, HU2⟩
                  case measure => simp [intOf]; omega
                · obtain rfl : j = m.entries[k].data.length := by omega
                  obtain ⟨ge', cap, x, e, hc1, hf1, ht, hu⟩ := HT.out.term hlt
                  injection e with e1 e2 e3
                  injection e1 with e1
                  injection e1 with e1
                  subst e1; subst e3
                  have HT2 := Lib.hid ht
                  have HU2 := Lib.hid (HU.out.trans hu)
                  clear ht hu HT HU hjl
                  go_wp2_with fail
                  go_roundw
                  case rel => exact ⟨k + 1, by omega, by go_num, HT2, HU2⟩
                  case measure => simp [intOf]; omega
            · obtain rfl : k = m.entries.length := by omega
              clear hlt
              go_wp2_with fail
              go_end0
              exact ⟨rfl, HU.out⟩
end Go.Proofs.Ytfflcnlgkbgbhaa
