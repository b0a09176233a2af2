/-
  Texts of this claim, put together: Cut2, Bag, BagDel.
-/
import Derived.Test.YtfflcnlgkbgbhaaZ1
import Derived.Test.YtfflcnlgkbgbhaaZ4
import Derived.WalkSpells
import Derived.Laws.IdiomCopy
import Derived.Deep.MidRow
import Derived.Deep.Upon
import Derived.Test.YtfflcnlgkbgbhaaZ11
import Derived.Deep.RegionLaw
set_option linter.unusedVariables false
set_option linter.unusedSimpArgs false
namespace Go.Proofs.Ytfflcnlgkbgbhaa
open Go.RowKit

def restZ (A : Option Addr) (c k sz : Nat) : Option Addr := if c = k then A else Option.map (fun x => x.add (k * sz)) A
/-- A part of a slice whose elements have sz cells. -/
def partZ (A : Option Addr) (c l h sz : Nat) : Value := .slice (restZ A c l sz) (h - l) (c - l)
theorem partZ_eq (A : Option Addr) (c l h sz : Nat) : partZ A c l h sz = .slice (restZ A c l sz) (h - l) (c - l) := rfl
section
variable {P : Program} {t e : TypeId} {z : Value} {bytes sz : Nat}
theorem sliceZ_from (hE : ElemT P t e z sz bytes) (A : Option Addr) (len cap : Nat) (k : IntKind) (l : Int) (L : Nat) (hl : l = (L : Int)) (h : L ≤ len) (W : World) :
    (Instr.sliceAt t (.slice A len cap) (some (.int k l)) none none).run P W = .ok (partZ A cap L len sz) W := by
  obtain ⟨i, hi, hz0, hz1, hz2⟩ := info_parts hE.info
  have ht : P.underlying t = some (.slice (P.elem t)) := by rw [hE.under]; simp [Program.elem, hE.under]
  have he : P.elem t = e := by simp [Program.elem, hE.under]
  subst hl
  rw [run_sliceAt_slice _ _ _ _ _ _ ht, run_slice_l _ _ _ _ _ ht _ _ (by omega) (by omega), he]
  simp [sizeOf, typeInfo, hi, hz1, sliced, partZ, restZ]
theorem sliceZ_to (hE : ElemT P t e z sz bytes) (A : Option Addr) (len cap : Nat) (k : IntKind) (h : Int) (H : Nat) (hh : h = (H : Int)) (hc : H ≤ cap) (W : World) :
    (Instr.sliceAt t (.slice A len cap) none (some (.int k h)) none).run P W = .ok (partZ A cap 0 H sz) W := by
  obtain ⟨i, hi, hz0, hz1, hz2⟩ := info_parts hE.info
  have ht : P.underlying t = some (.slice (P.elem t)) := by rw [hE.under]; simp [Program.elem, hE.under]
  have he : P.elem t = e := by simp [Program.elem, hE.under]
  subst hh
  rw [run_sliceAt_slice _ _ _ _ _ _ ht, run_slice_h _ _ _ _ _ ht _ _ (by omega) (by omega), he]
  simp [sizeOf, typeInfo, hi, hz1, sliced, partZ, restZ]
theorem sliceZ_of (hE : ElemT P t e z sz bytes) (A : Option Addr) (len cap : Nat) (k k' : IntKind) (l h : Int) (L H : Nat) (hl : l = (L : Int)) (hh : h = (H : Int)) (hlh : L ≤ H) (hc : H ≤ cap) (W : World) :
    (Instr.sliceAt t (.slice A len cap) (some (.int k l)) (some (.int k' h)) none).run P W = .ok (partZ A cap L H sz) W := by
  obtain ⟨i, hi, hz0, hz1, hz2⟩ := info_parts hE.info
  have ht : P.underlying t = some (.slice (P.elem t)) := by rw [hE.under]; simp [Program.elem, hE.under]
  have he : P.elem t = e := by simp [Program.elem, hE.under]
  subst hl; subst hh
  rw [run_sliceAt_slice _ _ _ _ _ _ ht, run_slice_lh _ _ _ _ _ ht _ _ _ _ (by omega) (by omega) (by omega), he]
  simp [sizeOf, typeInfo, hi, hz1, sliced, partZ, restZ]
/-- Three bounds: somewhere it leads; it is not looked at. -/
theorem sliceZ_three (hE : ElemT P t e z sz bytes) (A : Option Addr) (len cap : Nat) (k k' k2 : IntKind) (l h m : Int) (L H M : Nat) (hl : l = (L : Int)) (hh : h = (H : Int)) (hm : m = (M : Int)) (hlh : L ≤ H) (hhm : H ≤ M) (hc : M ≤ cap) (W : World) :
    (Instr.sliceAt t (.slice A len cap) (some (.int k l)) (some (.int k' h)) (some (.int k2 m))).run P W = .ok (partZ A M L H sz) W := by
  obtain ⟨i, hi, hz0, hz1, hz2⟩ := info_parts hE.info
  have ht : P.underlying t = some (.slice (P.elem t)) := by rw [hE.under]; simp [Program.elem, hE.under]
  have he : P.elem t = e := by simp [Program.elem, hE.under]
  subst hl; subst hh; subst hm
  rw [run_sliceAt_slice _ _ _ _ _ _ ht, run_slice_lhm _ _ _ _ _ ht _ _ _ _ _ _ (by omega) (by omega) (by omega) (by omega), he]
  simp [sizeOf, typeInfo, hi, hz1, sliced, partZ, restZ]
end
theorem Rs.partz {α : Type} {d : Kd α} {w : World} {S : Nat → Prop} {A : Option Addr} {m c l h : Nat} {xs : List α} (hr : Rs d w S (.slice A m c) xs) (hl : l ≤ h) (hh : h ≤ xs.length) :
    Rs d w S (partZ A c l h d.sz) ((xs.drop l).take (h - l)) := by
  obtain ⟨A', c', he, hlen, hc, hz, hrow⟩ := hr
  injection he with e1 e2 e3
  subst e1; subst e3
  have e : ((xs.drop l).take (h - l)).length = h - l := by rw [List.length_take, List.length_drop]; omega
  refine ⟨_, c - l, by rw [e]; rfl, by rw [e]; omega, by omega, by rw [e]; omega, ?_⟩
  unfold restZ
  split
  · exact Row.empty (by rw [e]; omega)
  · exact (hrow.drop l).take (h - l)
theorem Rs.fromz {α : Type} {d : Kd α} {w : World} {S : Nat → Prop} {A : Option Addr} {m c l : Nat} {xs : List α} (hr : Rs d w S (.slice A m c) xs) (hl : l ≤ xs.length) :
    Rs d w S (partZ A c l xs.length d.sz) (xs.drop l) := by
  have := hr.partz hl (Nat.le_refl _)
  rwa [List.take_of_length_le (by rw [List.length_drop]; omega)] at this
theorem Rs.toz {α : Type} {d : Kd α} {w : World} {S : Nat → Prop} {A : Option Addr} {m c h : Nat} {xs : List α} (hr : Rs d w S (.slice A m c) xs) (hh : h ≤ xs.length) :
    Rs d w S (partZ A c 0 h d.sz) (xs.take h) := by
  have := hr.partz (Nat.zero_le h) hh
  simpa using this

/-! ### cells laid over a row -/
def layA : Array Value → Nat → List Value → Array Value
  | c, _, [] => c
  | c, o, v :: vs => layA (c.setIfInBounds o v) (o + 1) vs
theorem layA_toList : ∀ (vs : List Value) (c : Array Value) (o : Nat), o + vs.length ≤ c.size → (layA c o vs).toList = c.toList.take o ++ vs ++ c.toList.drop (o + vs.length)
  | [], c, o, _ => by simp [layA]
  | v :: vs, c, o, h => by
    rw [List.length_cons] at h
    have h1 := layA_toList vs (c.setIfInBounds o v) (o + 1) (by simp; omega)
    have ho : o < c.toList.length := by simpa using (by omega : o < c.size)
    unfold layA
    rw [h1, Array.toList_setIfInBounds, List.take_set, List.drop_set_of_lt (by omega), List.length_cons, show o + 1 + vs.length = o + (vs.length + 1) by omega]
    have : (List.take (o + 1) c.toList).set o v = List.take o c.toList ++ [v] := by
      rw [List.take_succ_eq_append_getElem ho, List.set_append_right (h := by rw [List.length_take]; omega), List.length_take, Nat.min_eq_left (by omega), Nat.sub_self]
      rfl
    rw [this]
    simp
theorem layA_size : ∀ (vs : List Value) (c : Array Value) (o : Nat), (layA c o vs).size = c.size
  | [], _, _ => rfl
  | v :: vs, c, o => by unfold layA; rw [layA_size vs]; simp
theorem heap_setCells_at {g : Nat} {e : TypeId} : ∀ (vs : List Value) (o : Nat) (w : World) (cur : Array Value), w.heap[g]? = some (.cells cur e (0, 0)) → (w.setCells g o vs).heap[g]? = some (.cells (layA cur o vs) e (0, 0))
  | [], _, _, _, h => h
  | v :: vs, o, w, cur, h => heap_setCells_at vs (o + 1) _ _ (heap_setCell_same w g o cur e v h)
theorem Upd.setCells {S : Nat → Prop} {a : World} {g : Nat} (hg : S g ∨ a.heap.size ≤ g) : ∀ (vs : List Value) (o : Nat) (b : World), Upd S a b → Upd S a (b.setCells g o vs)
  | [], _, _, h => h
  | v :: vs, o, b, h => Upd.setCells hg vs (o + 1) _ (h.set hg v)

section
variable {α : Type} {d : Kd α} {w : World} {S : Nat → Prop} {base g cap : Nat} {e : TypeId} {xs : List α}
/-- The cells behind an element, to be laid over it. -/
def tailC (cells : List Value) (k : Nat) : List Value := cells.drop k
theorem Ow.open_ (h : Ow d e w base S (.slice (some ⟨g, 0, none⟩) xs.length cap) xs) : ∃ cur : Array Value, w.heap[g]? = some (.cells cur e (0, 0)) ∧ base ≤ g ∧ S g ∧ xs.length ≤ cap ∧ cap ≤ maxLen ∧ cur.size = cap * d.sz ∧
    ∀ j x, xs[j]? = some x → d.K w (fun b => S b ∧ b ≠ g) x ((cur.toList.drop (j * d.sz)).take d.sz) := by
  obtain ⟨h0, hz, cells, ho, hx⟩ := h
  have hS := h0 g rfl
  rcases ho.2 with ⟨h2, _⟩ | ⟨g', cap', cur, h2, hb', hh, hn, hm, hs, ht⟩
  · simp at h2
  · simp only [Value.slice.injEq, Option.some.injEq, Addr.mk.injEq] at h2
    obtain ⟨⟨rfl, _, _⟩, _, rfl⟩ := h2
    refine ⟨cur, hh, hb', hS, hn, hm, hs, fun j x hj => ?_⟩
    have hj1 : j < xs.length := (List.getElem?_eq_some_iff.1 hj).1
    have hk := hx j x hj
    have hle : j * d.sz + d.sz ≤ xs.length * d.sz := by rw [← Nat.succ_mul]; exact Nat.mul_le_mul_right _ hj1
    rw [← ht, List.drop_take, List.take_take, Nat.min_eq_left (by omega)] at hk
    exact d.mono (fun b hb => ⟨hb.1, fun e' => hb.2 (by rw [e']; rfl)⟩) hk
theorem Ow.shut (cur : Array Value) (hh : w.heap[g]? = some (.cells cur e (0, 0))) (hb : base ≤ g) (hS : S g) (hn : xs.length ≤ cap) (hm : cap ≤ maxLen) (hs : cur.size = cap * d.sz) (hz : xs.length ≤ 140737488355328)
    (hx : ∀ j x, xs[j]? = some x → d.K w (fun b => S b ∧ b ≠ g) x ((cur.toList.drop (j * d.sz)).take d.sz)) : Ow d e w base S (.slice (some ⟨g, 0, none⟩) xs.length cap) xs := by
  have hle : xs.length * d.sz ≤ cur.toList.length := by
    have hq : cur.toList.length = cap * d.sz := by simpa using hs
    rw [hq]; exact Nat.mul_le_mul_right _ hn
  refine ⟨fun k hk => by simp [Value.ownBlock] at hk; exact hk ▸ hS, hz, cur.toList.take (xs.length * d.sz), ⟨by rw [List.length_take]; omega, .inr ⟨g, cap, cur, rfl, hb, hh, hn, hm, hs, rfl⟩⟩, fun j x hj => ?_⟩
  have hj1 : j < xs.length := (List.getElem?_eq_some_iff.1 hj).1
  have hle2 : j * d.sz + d.sz ≤ xs.length * d.sz := by rw [← Nat.succ_mul]; exact Nat.mul_le_mul_right _ hj1
  rw [List.drop_take, List.take_take, Nat.min_eq_left (by omega)]
  exact d.mono (fun b hb => ⟨hb.1, fun e' => by simp [Value.ownBlock] at e'; exact hb.2 e'⟩) (hx j x hj)
/-- Cells moved to the left, and others laid behind them: what stands where. -/
theorem laid_left {α : Type} {L zs : List α} {I J z N r : Nat} (hIN : I + z ≤ N) (hNC : N ≤ L.length) (hJ : J + z ≤ I) (hr : r < z) :
    (((L.take I ++ (L.drop (I + z)).take (N - (I + z)) ++ L.drop (I + (N - (I + z)))).take (N - z) ++ zs ++ (L.take I ++ (L.drop (I + z)).take (N - (I + z)) ++ L.drop (I + (N - (I + z)))).drop (N - z + z)))[J + r]? = L[J + r]? := by
  have h1 : ((L.take I ++ (L.drop (I + z)).take (N - (I + z)) ++ L.drop (I + (N - (I + z)))).take (N - z)).length = N - z := by
    simp only [List.length_take, List.length_append, List.length_drop]; omega
  rw [List.append_assoc, List.getElem?_append_left (by rw [h1]; omega), List.getElem?_take, if_pos (by omega), List.append_assoc, List.getElem?_append_left (by rw [List.length_take]; omega), List.getElem?_take, if_pos (by omega)]
theorem laid_right {α : Type} {L zs : List α} {I J z N r : Nat} (hIN : I + z ≤ N) (hNC : N ≤ L.length) (hJ : I ≤ J) (hJN : J + z ≤ N - z) (hr : r < z) :
    (((L.take I ++ (L.drop (I + z)).take (N - (I + z)) ++ L.drop (I + (N - (I + z)))).take (N - z) ++ zs ++ (L.take I ++ (L.drop (I + z)).take (N - (I + z)) ++ L.drop (I + (N - (I + z)))).drop (N - z + z)))[J + r]? = L[J + z + r]? := by
  have h1 : ((L.take I ++ (L.drop (I + z)).take (N - (I + z)) ++ L.drop (I + (N - (I + z)))).take (N - z)).length = N - z := by
    simp only [List.length_take, List.length_append, List.length_drop]; omega
  have h2 : (L.take I).length = I := by rw [List.length_take]; omega
  rw [List.append_assoc, List.getElem?_append_left (by rw [h1]; omega), List.getElem?_take, if_pos (by omega), List.append_assoc, List.getElem?_append_right (by rw [h2]; omega), h2,
    List.getElem?_append_left (by rw [List.length_take, List.length_drop]; omega), List.getElem?_take, if_pos (by omega), List.getElem?_drop]
  congr 1
  omega
/-- Element i taken out: the cells behind it are laid over it, and the last ones are laid anew. -/
theorem Ow.del (h : Ow d e w base S (.slice (some ⟨g, 0, none⟩) xs.length cap) xs) (i : Nat) (hi : i < xs.length) : ∃ news : List Value, news.length = (xs.length - (i + 1)) * d.sz ∧
    (∀ t u, news[t]? = some u → w.cell? ⟨g, (i + 1) * d.sz + t, none⟩ = some u) ∧ (∀ u ∈ news, u.oneCell' = true) ∧
    (∀ j, j < xs.length * d.sz → (w.cell? ⟨g, j, none⟩).isSome = true ∧ w.frozen? ⟨g, j, none⟩ = false) ∧
    ∀ (w' : World) (zs : List Value), (∀ b : Nat, w'.heap[b]? = w.heap[b]?) → w'.os = w.os → w'.tape = w.tape → w'.output = w.output → zs.length = d.sz →
      (∀ j, j < xs.length * d.sz → ((w'.setCells g (i * d.sz) news).cell? ⟨g, j, none⟩).isSome = true ∧ (w'.setCells g (i * d.sz) news).frozen? ⟨g, j, none⟩ = false) ∧
      Ow d e ((w'.setCells g (i * d.sz) news).setCells g ((xs.length - 1) * d.sz) zs) base S (.slice (some ⟨g, 0, none⟩) (xs.length - 1) cap) (xs.eraseIdx i) ∧
      Upd (fun b => b = g) w ((w'.setCells g (i * d.sz) news).setCells g ((xs.length - 1) * d.sz) zs) := by
  have hz := h.2.1
  obtain ⟨cur, hh, hb, hS, hn, hm, hs, hx⟩ := h.open_
  have hcl : cur.toList.length = cap * d.sz := by rw [Array.length_toList, hs]
  have hle : xs.length * d.sz ≤ cap * d.sz := Nat.mul_le_mul_right _ hn
  have e1 : (i + 1) * d.sz = i * d.sz + d.sz := Nat.succ_mul _ _
  have hi1 : (i + 1) * d.sz ≤ xs.length * d.sz := Nat.mul_le_mul_right _ hi
  have e2 : (xs.length - (i + 1)) * d.sz = xs.length * d.sz - (i + 1) * d.sz := Nat.sub_mul _ _ _
  have e3 : (xs.length - 1) * d.sz = xs.length * d.sz - d.sz := by rw [Nat.sub_mul, Nat.one_mul]
  have hcell : ∀ j (hj : j < cap * d.sz), w.cell? ⟨g, j, none⟩ = some (cur.toList[j]'(by omega)) := fun j hj => by
    rw [cell_blk hh]
    simp only [Array.getElem_toList]
    exact Array.getElem?_eq_getElem _
  have hfr : ∀ j, w.frozen? ⟨g, j, none⟩ = false := fun j => frozen_blk hh j
  refine ⟨(cur.toList.drop ((i + 1) * d.sz)).take ((xs.length - (i + 1)) * d.sz), by rw [List.length_take, List.length_drop]; omega, fun t u hu => ?_, fun u hu => ?_, fun j hj => ⟨by rw [hcell j (by omega)]; rfl, hfr j⟩, ?_⟩
  · have ht := (List.getElem?_eq_some_iff.1 hu).1
    rw [List.length_take, List.length_drop] at ht
    rw [List.getElem?_take, if_pos (by omega), List.getElem?_drop] at hu
    rw [hcell _ (by omega), ← hu, List.getElem?_eq_getElem]
  · obtain ⟨t, ht, rfl⟩ := List.getElem_of_mem hu
    rw [List.length_take, List.length_drop] at ht
    rw [List.getElem_take, List.getElem_drop]
    obtain ⟨q, r, hr, hq⟩ : ∃ q r, r < d.sz ∧ (i + 1) * d.sz + t = q * d.sz + r := by
      refine ⟨((i + 1) * d.sz + t) / d.sz, ((i + 1) * d.sz + t) % d.sz, Nat.mod_lt _ (Nat.pos_of_ne_zero (fun h0 => by rw [h0] at ht e2; omega)), ?_⟩
      exact (Nat.div_add_mod' _ _).symm
    have hql : q < xs.length := by
      rcases Nat.lt_or_ge q xs.length with h0 | h0
      · exact h0
      · have := Nat.mul_le_mul_right d.sz h0; omega
    refine d.one (hx q _ (List.getElem?_eq_getElem hql)) _ ?_
    rw [List.mem_iff_getElem?]
    refine ⟨r, ?_⟩
    rw [List.getElem?_take, if_pos hr, List.getElem?_drop, ← hq]
    exact List.getElem?_eq_getElem _
  · intro w' zs hhp hos htp hou hzl
    have hh' : w'.heap[g]? = some (.cells cur e (0, 0)) := (hhp g).trans hh
    have h1 := heap_setCells_at ((cur.toList.drop ((i + 1) * d.sz)).take ((xs.length - (i + 1)) * d.sz)) (i * d.sz) w' cur hh'
    have h2 := heap_setCells_at zs ((xs.length - 1) * d.sz) _ _ h1
    have hnl : ((cur.toList.drop ((i + 1) * d.sz)).take ((xs.length - (i + 1)) * d.sz)).length = (xs.length - (i + 1)) * d.sz := by rw [List.length_take, List.length_drop]; omega
    have hL1 := layA_toList ((cur.toList.drop ((i + 1) * d.sz)).take ((xs.length - (i + 1)) * d.sz)) cur (i * d.sz) (by omega)
    have hL2 := layA_toList zs (layA cur (i * d.sz) ((cur.toList.drop ((i + 1) * d.sz)).take ((xs.length - (i + 1)) * d.sz))) ((xs.length - 1) * d.sz) (by rw [layA_size]; omega)
    have hu0 : Upd (fun b => b = g) w w' := by
      refine ⟨hos, htp, hou, ?_, fun k hk _ => hhp k⟩
      rcases Nat.lt_or_ge w'.heap.size w.heap.size with h0 | h0
      · have := hhp w'.heap.size
        rw [Array.getElem?_eq_none (Nat.le_refl _), Array.getElem?_eq_getElem h0] at this
        cases this
      · exact h0
    have hu : Upd (fun b => b = g) w ((w'.setCells g (i * d.sz) ((cur.toList.drop ((i + 1) * d.sz)).take ((xs.length - (i + 1)) * d.sz))).setCells g ((xs.length - 1) * d.sz) zs) :=
      Upd.setCells (S := fun b => b = g) (.inl rfl) _ _ _ (Upd.setCells (S := fun b => b = g) (.inl rfl) _ _ _ hu0)
    have hel : (xs.eraseIdx i).length = xs.length - 1 := by rw [List.length_eraseIdx]; simp [hi]
    refine ⟨fun j hj => ⟨?_, frozen_blk h1 j⟩, ?_, hu⟩
    · rw [cell_blk h1]
      rw [Array.getElem?_eq_getElem (by rw [layA_size, hs]; omega)]
      rfl
    · refine (fun h => by rw [hel] at h; exact h) (Ow.shut (xs := xs.eraseIdx i) (cap := cap) _ h2 hb hS (by omega) hm (by rw [layA_size, layA_size, hs]) (by omega) fun j x hj => ?_)
      have hj1 : j < xs.length - 1 := by rw [← hel]; exact (List.getElem?_eq_some_iff.1 hj).1
      have hj2 : (j + 1) * d.sz ≤ (xs.length - 1) * d.sz := Nat.mul_le_mul_right _ hj1
      rw [Nat.succ_mul] at hj2
      have key : ((layA (layA cur (i * d.sz) ((cur.toList.drop ((i + 1) * d.sz)).take ((xs.length - (i + 1)) * d.sz))) ((xs.length - 1) * d.sz) zs).toList.drop (j * d.sz)).take d.sz =
          (cur.toList.drop ((if j < i then j else j + 1) * d.sz)).take d.sz := by
        apply List.ext_getElem?
        intro r
        rw [List.getElem?_take, List.getElem?_take]
        by_cases hr : r < d.sz
        · rw [if_pos hr, if_pos hr, List.getElem?_drop, List.getElem?_drop, hL2, hL1, hnl, hzl, e2, e1, e3]
          rw [e1] at hi1
          split
          · rename_i hji
            have h3 : (j + 1) * d.sz ≤ i * d.sz := Nat.mul_le_mul_right _ hji
            rw [Nat.succ_mul] at h3
            exact laid_left hi1 (by rw [hcl]; exact hle) h3 hr
          · rename_i hji
            have h3 : i * d.sz ≤ j * d.sz := Nat.mul_le_mul_right _ (by omega)
            rw [show (j + 1) * d.sz = j * d.sz + d.sz from Nat.succ_mul _ _]
            rw [e3] at hj2
            exact laid_right hi1 (by rw [hcl]; exact hle) h3 hj2 hr
        · rw [if_neg hr, if_neg hr]
      rw [key]
      have hx' := hx (if j < i then j else j + 1) x (by
        rw [List.getElem?_eraseIdx] at hj
        split
        · rename_i h5; rwa [if_pos h5] at hj
        · rename_i h5; rwa [if_neg h5] at hj)
      exact d.move (fun b hb' => (hu.block b · hb'.2) |> fun f => by
        rcases Nat.lt_or_ge b w.heap.size with h5 | h5
        · exact f h5
        · rw [Array.getElem?_eq_none h5]
          refine Array.getElem?_eq_none ?_
          have : ∀ (vs : List Value) (o : Nat) (W : World), (W.setCells g o vs).heap.size = W.heap.size := by
            intro vs
            induction vs with
            | nil => exact fun _ _ => rfl
            | cons v vs ih => exact fun o W => by unfold World.setCells; rw [ih]; simp [World.setCell]
          rw [this, this]
          rcases Nat.lt_or_ge b w'.heap.size with h6 | h6
          · have := hhp b
            rw [Array.getElem?_eq_none h5, Array.getElem?_eq_getElem h6] at this
            cases this
          · exact h6) hx'
end
/-- 'clear' of one element. -/
theorem run_clear_one {P : Program} (w : World) (t e ty : TypeId) (z : Value) (ht : P.underlying t = some (.slice e)) (hv : ∀ w, (zeroValue e).run P w = .ok z w) (h1 : ∀ u ∈ z.cells.toList, u.oneCell' = true) (hp : 0 < z.cells.size) (b o c : Nat)
    (hc : ∀ j, j < z.cells.size → (w.cell? ⟨b, o + j, none⟩).isSome = true) (hf : ∀ j, j < z.cells.size → w.frozen? ⟨b, o + j, none⟩ = false) :
    (Builtin.clear_ #[t] ty #[.slice (some ⟨b, o, none⟩) 1 c]).run P w = .ok (.tuple #[]) (w.setCells b o z.cells.toList) := by
  have hzc : (Builtin.zeroCells z.cells 1).toList = z.cells.toList := by
    simp only [Builtin.zeroCells]
    apply List.ext_getElem
    · simp
    · intro i h1 h2
      simp at h1
      simp only [Array.getElem_toList, Array.getElem_map, Array.getElem_range, Nat.mod_eq_of_lt h1]
      exact getElem!_pos z.cells i h1
  have hst := run_storeCells_cells (P := P) b o z.cells.toList 0 w (by simpa using hc) (by simpa using hf) h1
  simp only [Nat.add_zero] at hst
  simp [Builtin.clear_, run_underlying ht, hv, hzc, hst]
end Go.Proofs.Ytfflcnlgkbgbhaa
set_option linter.unusedVariables false
set_option linter.unusedSimpArgs false
namespace Go.Proofs.Ytfflcnlgkbgbhaa
open Go.RowKit

/-- What a bag has, as parcels. -/
def parcels (s : BagS) : List (Int × List UInt8) := s.ids.zip (s.ms.map fun m => (putM m).1)
theorem parcels_len {s : BagS} (h : BagOk s) : (parcels s).length = s.ids.length := by
  unfold parcels; have := h.len; rw [List.length_zip, List.length_map]; omega
theorem parcels_fst {s : BagS} (h : BagOk s) (j : Nat) (hj : j < (parcels s).length) : (parcels s)[j].1 = s.ids[j]'(by rw [parcels_len h] at hj; exact hj) := by simp [parcels]
theorem parcels_snd {s : BagS} (h : BagOk s) (j : Nat) (hj : j < (parcels s).length) : (parcels s)[j].2 = (putM (s.ms[j]'(by rw [parcels_len h, h.len] at hj; exact hj))).1 := by simp [parcels]
/-- The bag at block g; its parcels lie in blocks of B. -/
def NetR (w : World) (g : Nat) (B : Nat → Prop) (s : BagS) : Prop :=
  ∃ A c, w.heap[g]? = some (.cells #[.slice A s.ids.length c, .int .i64 s.last, .bool true] 62 (0, 0)) ∧ Rs kPar w B (.slice A s.ids.length c) (parcels s) ∧ BagOk s ∧ s.last ≤ 4611686018427387904 ∧ ¬ B g
section
variable {w w' : World} {g : Nat} {B B' : Nat → Prop} {s : BagS}
theorem NetR.keep (h : NetR w g B s) (hk : ∀ b, (B b ∨ b = g) → b < w.heap.size → w'.heap[b]? = w.heap[b]?) : NetR w' g B s := by
  obtain ⟨A, c, h1, h2, h3, h4, h5⟩ := h
  exact ⟨A, c, (hk g (.inr rfl) (blk_lt h1)).trans h1, h2.keep fun b hb hl => hk b (.inl hb) hl, h3, h4, h5⟩
theorem NetR.ext (h : NetR w g B s) (he : Ext w w') : NetR w' g B s := h.keep fun b _ hb => he.block b hb
theorem NetR.mono (h : NetR w g B s) (hB : ∀ b, B b → B' b) (hg : ¬ B' g) : NetR w g B' s := by
  obtain ⟨A, c, h1, h2, h3, h4, h5⟩ := h
  exact ⟨A, c, h1, h2.mono hB, h3, h4, hg⟩
theorem NetR.bound (h : NetR w g B s) : NetR w g (fun b => B b ∧ b < w.heap.size) s := by
  obtain ⟨A, c, h1, h2, h3, h4, h5⟩ := h
  exact ⟨A, c, h1, h2.bound, h3, h4, fun h => h5 h.1⟩
theorem NetR.lt (h : NetR w g B s) : g < w.heap.size := let ⟨_, _, h1, _⟩ := h; blk_lt h1
theorem NetR.ok (h : NetR w g B s) : BagOk s := let ⟨_, _, _, _, h3, _⟩ := h; h3
end

set_option maxHeartbeats 400000 in
theorem place1_calls (w : World) (p : Nat) (n x : Int) (u : Value) (hu : ∃ A l c, u = .slice A l c) (hc : w.cell? ⟨p, 0, none⟩ = some (.int .i64 n)) (hp : p < w.heap.size) :
    Calls Try.prog 88 #[.agg #[.int .i64 x, u], .pointer (some ⟨p, 0, none⟩)] w fun e w' => e = .returned (.bool (decide (x = n))) ∧ Ext w w' := by
  obtain ⟨A, l, c, rfl⟩ := hu
  by_cases h : x = n
  · have hb : (x == n) = true := beq_iff_eq.2 h
    have HD := Lib.hid (decide_eq_true h)
    clear h
    go_enter Try.func88, Try.ntmps88
    go_wp2
    go_ret
    exact ⟨bool_ret HD.out.symm, (Ext.refl _).alloc _⟩
  · have hb : (x == n) = false := beq_eq_false_iff_ne.2 h
    have HD := Lib.hid (decide_eq_false h)
    clear h
    go_enter Try.func88, Try.ntmps88
    go_wp2
    go_ret
    exact ⟨bool_ret HD.out.symm, (Ext.refl _).alloc _⟩

set_option maxHeartbeats 800000 in
theorem IndexPar_calls (w : World) (S : Nat → Prop) (v : Value) (ps : List (Int × List UInt8)) (p : Nat) (n : Int) (hc : w.heap[p]? = some (.cells #[.int .i64 n] 3 (0, 0))) (hr : Rs kPar w S v ps) :
    Calls Try.prog 87 #[v, .func (.func 88) #[] #[.pointer (some ⟨p, 0, none⟩)]] w fun e w' => e = .returned (.int .i64 (idxI (ps.map Prod.fst) n)) ∧ Ext w w' := by
  have HC := Lib.hid hc
  clear hc
  have HR := Lib.hid hr.under
  obtain ⟨A, cp, rfl, hl, hcp, hz, hrow⟩ := hr
  clear hrow
  have hml : (ps.map Prod.fst).length = ps.length := List.length_map _
  have HML := Lib.hid hml
  clear hml
  go_enter Try.func87, Try.ntmps87
  go_wp2_with fail
  go_loopw [8] (fun i wr => ∃ k : Nat, k ≤ ps.length ∧ i = .int .i64 k ∧ Hid (idxFrom (ps.map Prod.fst) n k = idxI (ps.map Prod.fst) n) ∧ Hid (Ext w wr)) (fun i _ => ps.length - (intOf i).toNat)
  case atStart => exact ⟨0, Nat.zero_le _, rfl, Lib.hid (idxFrom_zero _ n), Lib.hid (Ext.refl _)⟩
  case round =>
    obtain ⟨k, hk, rfl, HQ, HX⟩ := hrel
    have hQ := HQ.out
    by_cases hlt : k < ps.length
    · obtain ⟨ad, Ad, cd, rfl, hc0, hc1, _, _⟩ := (HR.out.ext HX.out).shape.2.2.2.2.par hlt
      have HPC := Lib.hid (fun u hu => place1_calls wr p n ps[k].1 u hu (cell_blk (blk_ext HC.out HX.out) 0) (blk_lt (blk_ext HC.out HX.out)))
      by_cases he : ps[k].1 = n
      · have HE := Lib.hid (show idxI (ps.map Prod.fst) n = k by rw [← hQ, ← he, show ps[k].1 = (ps.map Prod.fst)[k]'(by rw [HML.out]; exact hlt) by simp, idxFrom_hit])
        have HB := Lib.hid (decide_eq_true he)
        clear he hQ HQ
        generalize ps[k] = x at hc0 hc1 HPC HB
        obtain ⟨x1, x2⟩ := x
        dsimp only at hc0 hc1 HPC HB
        go_wp2_with fail
        refine (HPC.out _ ⟨_, _, _, rfl⟩).mono ?_
        rw [HB.out]; rintro e w' ⟨rfl, hx⟩
        have HX2 := Lib.hid (HX.out.trans hx)
        clear hx
        go_wp2_with fail
        go_ret
        exact ⟨int_ret HE.out.symm, HX2.out⟩
      · have HE := Lib.hid (idxFrom_next (ps.map Prod.fst) n k (by rw [HML.out]; exact hlt) (by simpa using Ne.symm he))
        have HQ2 := Lib.hid (HE.out ▸ hQ)
        have HB := Lib.hid (decide_eq_false he)
        clear he hQ HQ HE
        generalize ps[k] = x at hc0 hc1 HPC HB
        obtain ⟨x1, x2⟩ := x
        dsimp only at hc0 hc1 HPC HB
        go_wp2_with fail
        refine (HPC.out _ ⟨_, _, _, rfl⟩).mono ?_
        rw [HB.out]; rintro e w' ⟨rfl, hx⟩
        have HX2 := Lib.hid (HX.out.trans hx)
        clear hx HX hc0 hc1
        go_wp2_with fail
        go_roundw
        case rel => exact ⟨k + 1, by omega, by go_num, HQ2, HX2⟩
        case measure => simp [intOf]; omega
    · obtain rfl : k = ps.length := by omega
      have HF := Lib.hid (show idxI (ps.map Prod.fst) n = -1 by rw [← hQ, ← HML.out, idxFrom_end])
      clear hlt hQ HQ
      go_wp2_with fail
      go_ret
      exact ⟨int_ret HF.out.symm, HX.out⟩

set_option maxHeartbeats 800000 in
theorem place_calls (w : World) (S : Nat → Prop) (v : Value) (ps : List (Int × List UInt8)) (n : Int) (hn : I64 n) (hr : Rs kPar w S v ps) :
    Calls Try.prog 82 #[v, .int .i64 n] w fun e w' => e = .returned (.int .i64 (idxI (ps.map Prod.fst) n)) ∧ Ext w w' := by
  have HR := Lib.hid hr
  clear hr
  go_enter Try.func82, Try.ntmps82
  go_wp2_with fail
  refine (IndexPar_calls _ S v ps _ n (heap_alloc_new _ _) (HR.out.alloc _)).mono ?_
  rintro e w' ⟨rfl, hx⟩
  have HX := Lib.hid (((Ext.refl w).alloc _).trans hx)
  clear hx
  go_wp2_with fail
  go_ret
  exact ⟨rfl, HX.out⟩

def findI (s : BagS) (id : Int) : Int := if s.at_ id < 0 then 0 else s.at_ id
def findE (s : BagS) (id : Int) : Int := if s.at_ id < 0 then 130 else 0
theorem parcels_ids {s : BagS} (h : BagOk s) : (parcels s).map Prod.fst = s.ids := by
  unfold parcels
  rw [List.map_fst_zip]
  rw [List.length_map, h.len]
  exact Nat.le_refl _
set_option maxHeartbeats 800000 in
theorem find_calls (w : World) (g : Nat) (B : Nat → Prop) (s : BagS) (id : Int) (hid : I64 id) (h : NetR w g B s) :
    Calls Try.prog 60 #[.pointer (some ⟨g, 0, none⟩), .int .i64 id] w fun e w' => e = .returned (.tuple #[.int .i64 (findI s id), .int .i64 (findE s id)]) ∧ Ext w w' := by
  have HI := Lib.hid hid
  obtain ⟨A, c, hb, hr, hok, _, _⟩ := h
  have hc0 : w.cell? ⟨g, 0, none⟩ = some (.slice A s.ids.length c) := cell_blk hb 0
  have hc2 : w.cell? ⟨g, 2, none⟩ = some (.bool true) := cell_blk hb 2
  have HR := Lib.hid hr
  have HP := Lib.hid (parcels_ids hok)
  rcases at_lt id hok with h0 | ⟨i, h0, _⟩
  · have H0 := Lib.hid h0
    clear hb hr hok hid h0
    go_enter Try.func60, Try.ntmps60
    go_wp2_with fail
    refine (place_calls w B _ _ id HI.out HR.out).mono ?_
    rw [HP.out]
    rw [show idxI s.ids id = -1 from H0.out]
    rintro e w' ⟨rfl, hx⟩
    have HX := Lib.hid hx
    clear hx hc0 hc2
    go_wp2_with fail
    go_ret2
    exact ⟨by unfold findI findE; rw [H0.out]; rfl, HX.out⟩
  · have H0 := Lib.hid h0
    clear hb hr hok hid h0
    go_enter Try.func60, Try.ntmps60
    go_wp2_with fail
    refine (place_calls w B _ _ id HI.out HR.out).mono ?_
    rw [HP.out]
    rw [show idxI s.ids id = (i : Int) from H0.out]
    rintro e w' ⟨rfl, hx⟩
    have HX := Lib.hid hx
    clear hx hc0 hc2
    go_wp2_with fail
    go_ret2
    exact ⟨by unfold findI findE; rw [H0.out, if_neg (by omega), if_neg (by omega)]; rfl, HX.out⟩
end Go.Proofs.Ytfflcnlgkbgbhaa
set_option linter.unusedVariables false
set_option linter.unusedSimpArgs false
namespace Go.Proofs.Ytfflcnlgkbgbhaa
open Go.RowKit

set_option maxRecDepth 1000000 in
set_option maxHeartbeats 4000000 in
theorem DelPar_calls (w : World) (base : Nat) (S : Nat → Prop) (v : Value) (xs : List _) (i : Nat) (hi : i < xs.length) (ho : Ow kPar 96 w base S v xs) :
    Calls Try.prog 62 #[v, .int .i64 (i : Int), .int .i64 ((i : Int) + 1)] w fun e w' => ∃ u, e = .returned u ∧ Ow kPar 96 w' base S u (xs.eraseIdx i) ∧ u.ownBlock = v.ownBlock ∧ Upd (fun b => v.ownBlock = some b) w w' := by
  obtain ⟨g, cap, rfl, hbg, hgl, hcap, hSg⟩ := ho.form (by omega)
  have hcm : cap ≤ 9223372036854775807 := by obtain ⟨_, _, _, _, _, h, _⟩ := ho.open_; simpa [maxLen] using h
  obtain ⟨news, n1, n2, n3, n4, n5⟩ := ho.del i hi
  have hz : xs.length ≤ 140737488355328 := ho.2.1
  clear ho
  have hkd : kPar.sz = 2 := rfl
  rw [hkd] at n1 n2 n4 n5
  obtain ⟨m5, m6, m7⟩ := n5 w.drew [.int .i64 0, .slice none 0 0] (fun _ => rfl) rfl rfl rfl rfl
  clear n5
  have hne : ((i : Int) == (i : Int) + 1) = false := beq_eq_false_iff_ne.2 (by omega)
  have hs3 := fun W => sliceZ_three (P := Try.prog) tPars (some ⟨g, 0, none⟩) xs.length cap .i64 .i64 .i64 (i : Int) ((i : Int) + 1) (xs.length : Int) i (i + 1) xs.length rfl (by omega) rfl (by omega) (by omega) hcap W
  have hs1 := fun W => sliceZ_to (P := Try.prog) tPars (some ⟨g, 0, none⟩) xs.length cap .i64 (i : Int) i rfl (by omega) W
  have hs2 := fun W => sliceZ_from (P := Try.prog) tPars (some ⟨g, 0, none⟩) xs.length cap .i64 ((i : Int) + 1) (i + 1) (by omega) (by omega) W
  have e0 : partZ (some ⟨g, 0, none⟩) cap 0 i 2 = .slice (some ⟨g, 0, none⟩) i cap := by
    unfold partZ restZ
    rw [Nat.zero_mul, Nat.sub_zero, Nat.sub_zero]
    split <;> simp [Addr.add]
  rw [e0] at hs1
  have hln : i + (xs.length - (i + 1)) = xs.length - 1 := by omega
  obtain ⟨A2, hA2, hsrc⟩ : ∃ A2, partZ (some ⟨g, 0, none⟩) cap (i + 1) xs.length 2 = .slice A2 (xs.length - (i + 1)) (cap - (i + 1)) ∧ ∃ ad, A2 = some ad ∧ ∀ t u, news[t]? = some u → w.drew.cell? (ad.add t) = some u := by
    refine ⟨_, rfl, ?_⟩
    unfold restZ
    split
    · refine ⟨_, rfl, fun t u hu => ?_⟩
      have h0 : news.length = 0 := by rw [n1, show xs.length - (i + 1) = 0 by omega, Nat.zero_mul]
      rw [List.length_eq_zero_iff.1 h0] at hu
      simp at hu
    · refine ⟨_, rfl, fun t u hu => ?_⟩
      have h1 := n2 t u hu
      rw [add_of_add, add_lit0]
      exact h1
  obtain ⟨ad, rfl, hsrc⟩ := hsrc
  rw [hA2] at hs2
  have s1 := Lib.hid n1
  have s2 := Lib.hid hsrc
  have s3 := Lib.hid n3
  have s4 := Lib.hid (show ∀ j, j < news.length → (w.drew.cell? ⟨g, 0 + i * 2 + j, none⟩).isSome = true ∧ w.drew.frozen? ⟨g, 0 + i * 2 + j, none⟩ = false from fun j hj => by
    rw [Nat.zero_add]
    exact n4 _ (by rw [n1] at hj; have e1 : (i + 1) * 2 = i * 2 + 2 := Nat.succ_mul _ _; omega))
  obtain ⟨W1, hW1⟩ : ∃ W1, W1 = w.drew.setCells g (i * 2) news := ⟨_, rfl⟩
  rw [← hW1] at m5 m6 m7
  have hW : Hid (W1 = w.drew.setCells g (0 + i * 2) news) := Lib.hid (by rw [hW1, Nat.zero_add])
  have hs4 : ∀ W, (Instr.sliceAt 60 (.slice (some ⟨g, 0, none⟩) (xs.length - 1) cap) (some (.int .i64 ((xs.length - 1 : Nat) : Int))) (some (.int .i64 (xs.length : Int))) none).run Try.prog W = .ok (.slice (some ⟨g, (xs.length - 1) * 2, none⟩) 1 (cap - (xs.length - 1))) W := fun W => by
    have h := sliceZ_of (P := Try.prog) tPars (some ⟨g, 0, none⟩) (xs.length - 1) cap .i64 .i64 ((xs.length - 1 : Nat) : Int) (xs.length : Int) (xs.length - 1) xs.length rfl rfl (by omega) hcap W
    rw [h]
    unfold partZ restZ
    rw [if_neg (by omega), show xs.length - (xs.length - 1) = 1 by omega]
    simp [add_lit0]
  have hzv : ∀ W, (zeroValue 96).run Try.prog W = .ok (.agg #[.int .i64 0, .slice none 0 0]) W := fun W => by kernel_rfl
  have hcl : ∀ ty, (Builtin.clear_ #[60] ty #[.slice (some ⟨g, (xs.length - 1) * 2, none⟩) 1 (cap - (xs.length - 1))]).run Try.prog W1 = .ok (.tuple #[]) (W1.setCells g ((xs.length - 1) * 2) [.int .i64 0, .slice none 0 0]) := fun ty =>
    run_clear_one W1 _ _ ty _ tPars.under hzv (by decide) (by decide) g _ _ (fun j hj => (m5 _ (by have : j < 2 := hj; omega)).1) (fun j hj => (m5 _ (by have : j < 2 := hj; omega)).2)
  have HO := Lib.hid m6
  have HU := Lib.hid m7
  have H1 : Hid (xs.length - (i + 1) + i = xs.length - 1) := Lib.hid (by omega)
  have hli : Hid (i + (xs.length - (i + 1)) = xs.length - 1) := Lib.hid hln
  obtain ⟨n', hn'⟩ : ∃ n', n' = xs.length - 1 := ⟨_, rfl⟩
  rw [← hn'] at hs4 hcl
  have hln' : i + (xs.length - (i + 1)) = n' := by omega
  have HLN := Lib.hid hln'
  have HN' := Lib.hid hn'
  have HCP := Lib.hid hcap
  have hroom : i + (xs.length - (i + 1)) ≤ cap := by omega
  have HRM := Lib.hid hroom
  clear n1 n2 n3 n4 m5 m6 m7 hsrc hW1 hA2 e0 hln hzv hln' hn' hroom hi
  (try simp only [Nat.mul_one] at hs4 hcl)
  go_enter Try.func62, Try.ntmps62
  obtain ⟨i0, hi0, hz0, hz1, hz2⟩ := info_parts tPars.info
  go_wp2_with fail
  go_region_law (refine step_append_room rfl (.tmp 22) (.tmp 25) 60 rfl 96 i0 2 tPars.under hi0 hz1 g 0 i cap (by simp [Act.eval, Act.put]) ad (xs.length - (i + 1)) (cap - (i + 1)) news (by simp [Act.eval, Act.put]) s1.out s2.out s3.out HRM.out s4.out ?_; rw [← hW.out, HLN.out])
  go_wp2_with fail
  go_ret
  refine ⟨_, rfl, ?_, rfl, ?_⟩
  · rw [HN'.out]; exact (by have h := HO.out; (try simp only [Nat.mul_one] at h); exact h)
  · rw [HN'.out]; exact (by have h := HU.out; (try simp only [Nat.mul_one] at h); exact h : Upd (fun b => b = g) w _).mono fun b hb => by show some g = some b; rw [show b = g from hb]

set_option maxRecDepth 1000000 in
set_option maxHeartbeats 4000000 in
theorem DelMsg_calls (w : World) (base : Nat) (S : Nat → Prop) (v : Value) (xs : List _) (i : Nat) (hi : i < xs.length) (ho : Ow kMsg 26 w base S v xs) :
    Calls Try.prog 36 #[v, .int .i64 (i : Int), .int .i64 ((i : Int) + 1)] w fun e w' => ∃ u, e = .returned u ∧ Ow kMsg 26 w' base S u (xs.eraseIdx i) ∧ u.ownBlock = v.ownBlock ∧ Upd (fun b => v.ownBlock = some b) w w' := by
  obtain ⟨g, cap, rfl, hbg, hgl, hcap, hSg⟩ := ho.form (by omega)
  have hcm : cap ≤ 9223372036854775807 := by obtain ⟨_, _, _, _, _, h, _⟩ := ho.open_; simpa [maxLen] using h
  obtain ⟨news, n1, n2, n3, n4, n5⟩ := ho.del i hi
  have hz : xs.length ≤ 140737488355328 := ho.2.1
  clear ho
  have hkd : kMsg.sz = 13 := rfl
  rw [hkd] at n1 n2 n4 n5
  obtain ⟨m5, m6, m7⟩ := n5 w.drew [.int .i64 0, .int .i64 0, .int .i64 0, .int .i64 0, .int .i64 0, .int .i64 0, .int .i64 0, .int .i64 0, .bool false, .bool false, .slice none 0 0, .slice none 0 0, .slice none 0 0] (fun _ => rfl) rfl rfl rfl rfl
  clear n5
  have hne : ((i : Int) == (i : Int) + 1) = false := beq_eq_false_iff_ne.2 (by omega)
  have hs3 := fun W => sliceZ_three (P := Try.prog) tMsgs (some ⟨g, 0, none⟩) xs.length cap .i64 .i64 .i64 (i : Int) ((i : Int) + 1) (xs.length : Int) i (i + 1) xs.length rfl (by omega) rfl (by omega) (by omega) hcap W
  have hs1 := fun W => sliceZ_to (P := Try.prog) tMsgs (some ⟨g, 0, none⟩) xs.length cap .i64 (i : Int) i rfl (by omega) W
  have hs2 := fun W => sliceZ_from (P := Try.prog) tMsgs (some ⟨g, 0, none⟩) xs.length cap .i64 ((i : Int) + 1) (i + 1) (by omega) (by omega) W
  have e0 : partZ (some ⟨g, 0, none⟩) cap 0 i 13 = .slice (some ⟨g, 0, none⟩) i cap := by
    unfold partZ restZ
    rw [Nat.zero_mul, Nat.sub_zero, Nat.sub_zero]
    split <;> simp [Addr.add]
  rw [e0] at hs1
  have hln : i + (xs.length - (i + 1)) = xs.length - 1 := by omega
  obtain ⟨A2, hA2, hsrc⟩ : ∃ A2, partZ (some ⟨g, 0, none⟩) cap (i + 1) xs.length 13 = .slice A2 (xs.length - (i + 1)) (cap - (i + 1)) ∧ ∃ ad, A2 = some ad ∧ ∀ t u, news[t]? = some u → w.drew.cell? (ad.add t) = some u := by
    refine ⟨_, rfl, ?_⟩
    unfold restZ
    split
    · refine ⟨_, rfl, fun t u hu => ?_⟩
      have h0 : news.length = 0 := by rw [n1, show xs.length - (i + 1) = 0 by omega, Nat.zero_mul]
      rw [List.length_eq_zero_iff.1 h0] at hu
      simp at hu
    · refine ⟨_, rfl, fun t u hu => ?_⟩
      have h1 := n2 t u hu
      rw [add_of_add, add_lit0]
      exact h1
  obtain ⟨ad, rfl, hsrc⟩ := hsrc
  rw [hA2] at hs2
  have s1 := Lib.hid n1
  have s2 := Lib.hid hsrc
  have s3 := Lib.hid n3
  have s4 := Lib.hid (show ∀ j, j < news.length → (w.drew.cell? ⟨g, 0 + i * 13 + j, none⟩).isSome = true ∧ w.drew.frozen? ⟨g, 0 + i * 13 + j, none⟩ = false from fun j hj => by
    rw [Nat.zero_add]
    exact n4 _ (by rw [n1] at hj; have e1 : (i + 1) * 13 = i * 13 + 13 := Nat.succ_mul _ _; omega))
  obtain ⟨W1, hW1⟩ : ∃ W1, W1 = w.drew.setCells g (i * 13) news := ⟨_, rfl⟩
  rw [← hW1] at m5 m6 m7
  have hW : Hid (W1 = w.drew.setCells g (0 + i * 13) news) := Lib.hid (by rw [hW1, Nat.zero_add])
  have hs4 : ∀ W, (Instr.sliceAt 28 (.slice (some ⟨g, 0, none⟩) (xs.length - 1) cap) (some (.int .i64 ((xs.length - 1 : Nat) : Int))) (some (.int .i64 (xs.length : Int))) none).run Try.prog W = .ok (.slice (some ⟨g, (xs.length - 1) * 13, none⟩) 1 (cap - (xs.length - 1))) W := fun W => by
    have h := sliceZ_of (P := Try.prog) tMsgs (some ⟨g, 0, none⟩) (xs.length - 1) cap .i64 .i64 ((xs.length - 1 : Nat) : Int) (xs.length : Int) (xs.length - 1) xs.length rfl rfl (by omega) hcap W
    rw [h]
    unfold partZ restZ
    rw [if_neg (by omega), show xs.length - (xs.length - 1) = 1 by omega]
    simp [add_lit0]
  have hzv : ∀ W, (zeroValue 26).run Try.prog W = .ok (.agg #[.int .i64 0, .int .i64 0, .int .i64 0, .int .i64 0, .int .i64 0, .int .i64 0, .int .i64 0, .int .i64 0, .bool false, .bool false, .slice none 0 0, .slice none 0 0, .slice none 0 0]) W := fun W => by kernel_rfl
  have hcl : ∀ ty, (Builtin.clear_ #[28] ty #[.slice (some ⟨g, (xs.length - 1) * 13, none⟩) 1 (cap - (xs.length - 1))]).run Try.prog W1 = .ok (.tuple #[]) (W1.setCells g ((xs.length - 1) * 13) [.int .i64 0, .int .i64 0, .int .i64 0, .int .i64 0, .int .i64 0, .int .i64 0, .int .i64 0, .int .i64 0, .bool false, .bool false, .slice none 0 0, .slice none 0 0, .slice none 0 0]) := fun ty =>
    run_clear_one W1 _ _ ty _ tMsgs.under hzv (by decide) (by decide) g _ _ (fun j hj => (m5 _ (by have : j < 13 := hj; omega)).1) (fun j hj => (m5 _ (by have : j < 13 := hj; omega)).2)
  have HO := Lib.hid m6
  have HU := Lib.hid m7
  have H1 : Hid (xs.length - (i + 1) + i = xs.length - 1) := Lib.hid (by omega)
  have hli : Hid (i + (xs.length - (i + 1)) = xs.length - 1) := Lib.hid hln
  obtain ⟨n', hn'⟩ : ∃ n', n' = xs.length - 1 := ⟨_, rfl⟩
  rw [← hn'] at hs4 hcl
  have hln' : i + (xs.length - (i + 1)) = n' := by omega
  have HLN := Lib.hid hln'
  have HN' := Lib.hid hn'
  have HCP := Lib.hid hcap
  have hroom : i + (xs.length - (i + 1)) ≤ cap := by omega
  have HRM := Lib.hid hroom
  clear n1 n2 n3 n4 m5 m6 m7 hsrc hW1 hA2 e0 hln hzv hln' hn' hroom hi
  (try simp only [Nat.mul_one] at hs4 hcl)
  go_enter Try.func36, Try.ntmps36
  obtain ⟨i0, hi0, hz0, hz1, hz2⟩ := info_parts tMsgs.info
  go_wp2_with fail
  go_region_law (refine step_append_room rfl (.tmp 22) (.tmp 25) 28 rfl 26 i0 13 tMsgs.under hi0 hz1 g 0 i cap (by simp [Act.eval, Act.put]) ad (xs.length - (i + 1)) (cap - (i + 1)) news (by simp [Act.eval, Act.put]) s1.out s2.out s3.out HRM.out s4.out ?_; rw [← hW.out, HLN.out])
  go_wp2_with fail
  go_ret
  refine ⟨_, rfl, ?_, rfl, ?_⟩
  · rw [HN'.out]; exact (by have h := HO.out; (try simp only [Nat.mul_one] at h); exact h)
  · rw [HN'.out]; exact (by have h := HU.out; (try simp only [Nat.mul_one] at h); exact h : Upd (fun b => b = g) w _).mono fun b hb => by show some g = some b; rw [show b = g from hb]

set_option maxRecDepth 1000000 in
set_option maxHeartbeats 4000000 in
theorem DelI_calls (w : World) (base : Nat) (S : Nat → Prop) (v : Value) (xs : List _) (i : Nat) (hi : i < xs.length) (ho : Ow kInt 3 w base S v xs) :
    Calls Try.prog 38 #[v, .int .i64 (i : Int), .int .i64 ((i : Int) + 1)] w fun e w' => ∃ u, e = .returned u ∧ Ow kInt 3 w' base S u (xs.eraseIdx i) ∧ u.ownBlock = v.ownBlock ∧ Upd (fun b => v.ownBlock = some b) w w' := by
  obtain ⟨g, cap, rfl, hbg, hgl, hcap, hSg⟩ := ho.form (by omega)
  have hcm : cap ≤ 9223372036854775807 := by obtain ⟨_, _, _, _, _, h, _⟩ := ho.open_; simpa [maxLen] using h
  obtain ⟨news, n1, n2, n3, n4, n5⟩ := ho.del i hi
  have hz : xs.length ≤ 140737488355328 := ho.2.1
  clear ho
  have hkd : kInt.sz = 1 := rfl
  rw [hkd] at n1 n2 n4 n5
  obtain ⟨m5, m6, m7⟩ := n5 w.drew [.int .i64 0] (fun _ => rfl) rfl rfl rfl rfl
  clear n5
  have hne : ((i : Int) == (i : Int) + 1) = false := beq_eq_false_iff_ne.2 (by omega)
  have hs3 := fun W => sliceZ_three (P := Try.prog) tInts (some ⟨g, 0, none⟩) xs.length cap .i64 .i64 .i64 (i : Int) ((i : Int) + 1) (xs.length : Int) i (i + 1) xs.length rfl (by omega) rfl (by omega) (by omega) hcap W
  have hs1 := fun W => sliceZ_to (P := Try.prog) tInts (some ⟨g, 0, none⟩) xs.length cap .i64 (i : Int) i rfl (by omega) W
  have hs2 := fun W => sliceZ_from (P := Try.prog) tInts (some ⟨g, 0, none⟩) xs.length cap .i64 ((i : Int) + 1) (i + 1) (by omega) (by omega) W
  have e0 : partZ (some ⟨g, 0, none⟩) cap 0 i 1 = .slice (some ⟨g, 0, none⟩) i cap := by
    unfold partZ restZ
    rw [Nat.zero_mul, Nat.sub_zero, Nat.sub_zero]
    split <;> simp [Addr.add]
  rw [e0] at hs1
  have hln : i + (xs.length - (i + 1)) = xs.length - 1 := by omega
  obtain ⟨A2, hA2, hsrc⟩ : ∃ A2, partZ (some ⟨g, 0, none⟩) cap (i + 1) xs.length 1 = .slice A2 (xs.length - (i + 1)) (cap - (i + 1)) ∧ ∃ ad, A2 = some ad ∧ ∀ t u, news[t]? = some u → w.drew.cell? (ad.add t) = some u := by
    refine ⟨_, rfl, ?_⟩
    unfold restZ
    split
    · refine ⟨_, rfl, fun t u hu => ?_⟩
      have h0 : news.length = 0 := by rw [n1, show xs.length - (i + 1) = 0 by omega, Nat.zero_mul]
      rw [List.length_eq_zero_iff.1 h0] at hu
      simp at hu
    · refine ⟨_, rfl, fun t u hu => ?_⟩
      have h1 := n2 t u hu
      rw [add_of_add, add_lit0]
      exact h1
  obtain ⟨ad, rfl, hsrc⟩ := hsrc
  rw [hA2] at hs2
  have s1 := Lib.hid n1
  have s2 := Lib.hid hsrc
  have s3 := Lib.hid n3
  have s4 := Lib.hid (show ∀ j, j < news.length → (w.drew.cell? ⟨g, 0 + i * 1 + j, none⟩).isSome = true ∧ w.drew.frozen? ⟨g, 0 + i * 1 + j, none⟩ = false from fun j hj => by
    rw [Nat.zero_add]
    exact n4 _ (by rw [n1] at hj; have e1 : (i + 1) * 1 = i * 1 + 1 := Nat.succ_mul _ _; omega))
  obtain ⟨W1, hW1⟩ : ∃ W1, W1 = w.drew.setCells g (i * 1) news := ⟨_, rfl⟩
  rw [← hW1] at m5 m6 m7
  have hW : Hid (W1 = w.drew.setCells g (0 + i * 1) news) := Lib.hid (by rw [hW1, Nat.zero_add])
  have hs4 : ∀ W, (Instr.sliceAt 23 (.slice (some ⟨g, 0, none⟩) (xs.length - 1) cap) (some (.int .i64 ((xs.length - 1 : Nat) : Int))) (some (.int .i64 (xs.length : Int))) none).run Try.prog W = .ok (.slice (some ⟨g, (xs.length - 1) * 1, none⟩) 1 (cap - (xs.length - 1))) W := fun W => by
    have h := sliceZ_of (P := Try.prog) tInts (some ⟨g, 0, none⟩) (xs.length - 1) cap .i64 .i64 ((xs.length - 1 : Nat) : Int) (xs.length : Int) (xs.length - 1) xs.length rfl rfl (by omega) hcap W
    rw [h]
    unfold partZ restZ
    rw [if_neg (by omega), show xs.length - (xs.length - 1) = 1 by omega]
    simp [add_lit0]
  have hzv : ∀ W, (zeroValue 3).run Try.prog W = .ok (.int .i64 0) W := fun W => by kernel_rfl
  have hcl : ∀ ty, (Builtin.clear_ #[23] ty #[.slice (some ⟨g, (xs.length - 1) * 1, none⟩) 1 (cap - (xs.length - 1))]).run Try.prog W1 = .ok (.tuple #[]) (W1.setCells g ((xs.length - 1) * 1) [.int .i64 0]) := fun ty =>
    run_clear_one W1 _ _ ty _ tInts.under hzv (by decide) (by decide) g _ _ (fun j hj => (m5 _ (by have : j < 1 := hj; omega)).1) (fun j hj => (m5 _ (by have : j < 1 := hj; omega)).2)
  have HO := Lib.hid m6
  have HU := Lib.hid m7
  have H1 : Hid (xs.length - (i + 1) + i = xs.length - 1) := Lib.hid (by omega)
  have hli : Hid (i + (xs.length - (i + 1)) = xs.length - 1) := Lib.hid hln
  obtain ⟨n', hn'⟩ : ∃ n', n' = xs.length - 1 := ⟨_, rfl⟩
  rw [← hn'] at hs4 hcl
  have hln' : i + (xs.length - (i + 1)) = n' := by omega
  have HLN := Lib.hid hln'
  have HN' := Lib.hid hn'
  have HCP := Lib.hid hcap
  have hroom : i + (xs.length - (i + 1)) ≤ cap := by omega
  have HRM := Lib.hid hroom
  clear n1 n2 n3 n4 m5 m6 m7 hsrc hW1 hA2 e0 hln hzv hln' hn' hroom hi
  (try simp only [Nat.mul_one] at hs4 hcl)
  go_enter Try.func38, Try.ntmps38
  obtain ⟨i0, hi0, hz0, hz1, hz2⟩ := info_parts tInts.info
  go_wp2_with fail
  go_region_law (refine step_append_room rfl (.tmp 22) (.tmp 25) 23 rfl 3 i0 1 tInts.under hi0 hz1 g 0 i cap (by simp [Act.eval, Act.put]) ad (xs.length - (i + 1)) (cap - (i + 1)) news (by simp [Act.eval, Act.put]) s1.out s2.out s3.out HRM.out s4.out ?_; rw [← hW.out, HLN.out])
  go_wp2_with fail
  go_ret
  refine ⟨_, rfl, ?_, rfl, ?_⟩
  · rw [HN'.out]; exact (by have h := HO.out; (try simp only [Nat.mul_one] at h); exact h)
  · rw [HN'.out]; exact (by have h := HU.out; (try simp only [Nat.mul_one] at h); exact h : Upd (fun b => b = g) w _).mono fun b hb => by show some g = some b; rw [show b = g from hb]
end Go.Proofs.Ytfflcnlgkbgbhaa
