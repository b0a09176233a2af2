/-
  Texts of this claim, put together: OwnKit, OwnP, OwnLw, NetPuts.
-/
import Derived.Test.YtfflcnlgkbgbhaaZ2
import Derived.Test.YtfflcnlgkbgbhaaZ12
import Derived.Test.YtfflcnlgkbgbhaaZ11
import Derived.Test.YtfflcnlgkbgbhaaZ8
import Derived.Test.YtfflcnlgkbgbhaaZ3
import Derived.Test.YtfflcnlgkbgbhaaZ13
import Derived.Test.YtfflcnlgkbgbhaaZ19
set_option linter.unusedVariables false
set_option linter.unusedSimpArgs false
namespace Go.Proofs.Ytfflcnlgkbgbhaa
open Go.RowKit

/-- Bytes in a row of the call's own. -/
def kOwnB (base : Nat) : Kd (List UInt8) where
  sz := 1
  K := fun w S xs cs => ∃ v, cs = [v] ∧ Ow kByte 5 w base S v xs
  len := by rintro w S x cs ⟨v, rfl, _⟩; rfl
  one := by
    rintro w S x cs ⟨v, rfl, h⟩ u hu
    obtain ⟨A, c, rfl, _⟩ := h.rs
    rw [List.mem_singleton.1 hu]
    rfl
  mono := by rintro w S S' x cs h ⟨v, rfl, hr⟩; exact ⟨v, rfl, hr.mono h⟩
  move := by rintro w w' S x cs h ⟨v, rfl, hr⟩; exact ⟨v, rfl, hr.keep fun b hb _ => h b hb⟩
  bound := by rintro w S x cs ⟨v, rfl, hr⟩; exact ⟨v, rfl, hr.bound⟩
def kEntO (base : Nat) : Kd EntS := Kd.via (fun e => (e.index, e.term, e.data, ())) (Kd.pair kInt (Kd.pair kInt (Kd.pair (kOwnB base) Kd.unit)))
theorem kEntO_iff {w : World} {S : Nat → Prop} {base : Nat} {e : EntS} {cs : List Value} : (kEntO base).K w S e cs ↔ ∃ vd, cs = [.int .i64 e.index, .int .i64 e.term, vd] ∧ Ow kByte 5 w base S vd e.data ∧ I64 e.index ∧ I64 e.term := by
  constructor
  · rintro ⟨_, _, rfl, ⟨rfl, h0⟩, _, _, rfl, ⟨rfl, h1⟩, _, _, rfl, ⟨vd, rfl, hd⟩, rfl⟩
    exact ⟨vd, rfl, hd, h0, h1⟩
  · rintro ⟨vd, rfl, hd, h0, h1⟩
    exact ⟨_, _, rfl, ⟨rfl, h0⟩, _, _, rfl, ⟨rfl, h1⟩, _, _, rfl, ⟨vd, rfl, hd⟩, rfl⟩
theorem kEntO_ent {w : World} {S : Nat → Prop} {base : Nat} {e : EntS} {cs : List Value} (h : (kEntO base).K w S e cs) : kEnt.K w S e cs := by
  obtain ⟨vd, rfl, hd, h0, h1⟩ := kEntO_iff.1 h
  exact kEnt_iff.2 ⟨vd, rfl, hd.rs, h0, h1⟩
/-- An entry whose bytes are the call's own, or not yet. -/
def kEntF (base : Nat) : Kd (EntS × Bool) where
  sz := 3
  K := fun w S x cs => if x.2 = true then (kEntO base).K w (fun b => S b ∧ base ≤ b) x.1 cs else kEnt.K w S x.1 cs
  len := by
    intro w S x cs h
    split at h
    · exact (kEntO base).len h
    · exact kEnt.len h
  one := by
    intro w S x cs h
    split at h
    · exact (kEntO base).one h
    · exact kEnt.one h
  mono := by
    intro w S S' x cs hS h
    split at h
    · rename_i h1; rw [if_pos h1]; exact (kEntO base).mono (fun b hb => ⟨hS b hb.1, hb.2⟩) h
    · rename_i h1; rw [if_neg h1]; exact kEnt.mono hS h
  move := by
    intro w w' S x cs hk h
    split at h
    · rename_i h1; rw [if_pos h1]; exact (kEntO base).move (fun b hb => hk b hb.1) h
    · rename_i h1; rw [if_neg h1]; exact kEnt.move hk h
  bound := by
    intro w S x cs h
    split at h
    · rename_i h1; rw [if_pos h1]; exact (kEntO base).mono (fun b hb => ⟨⟨hb.1.1, hb.2⟩, hb.1.2⟩) ((kEntO base).bound h)
    · rename_i h1; rw [if_neg h1]; exact kEnt.bound h
def flags (es : List EntS) (k : Nat) : List (EntS × Bool) := (es.take k).map (·, true) ++ (es.drop k).map (·, false)
theorem flags_len (es : List EntS) (k : Nat) : (flags es k).length = es.length := by simp [flags]; omega
theorem flags_get (es : List EntS) (k j : Nat) : (flags es k)[j]? = (es[j]?).map fun e => (e, decide (j < k)) := by
  unfold flags
  by_cases hj : j < es.length
  · by_cases hk : j < k
    · rw [List.getElem?_append_left (by simp; omega), List.getElem?_map, List.getElem?_take, if_pos hk, decide_eq_true hk]
    · rw [List.getElem?_append_right (by simp; omega), List.getElem?_map, List.getElem?_drop, decide_eq_false hk]
      congr 2
      simp; omega
  · rw [List.getElem?_eq_none (by simp; omega), List.getElem?_eq_none (by omega)]; rfl
theorem flags_set (es : List EntS) (k : Nat) (hk : k < es.length) : (flags es k).set k (es[k], true) = flags es (k + 1) := by
  apply List.ext_getElem?
  intro j
  rw [List.getElem?_set, flags_get, flags_get, flags_len]
  by_cases hj : k = j
  · subst hj
    rw [if_pos rfl, if_pos hk, List.getElem?_eq_getElem hk]
    simp
  · rw [if_neg hj]
    congr 1
    funext e
    congr 1
    rw [decide_eq_decide]
    omega

section
variable {α : Type} {d : Kd α} {w : World} {S : Nat → Prop} {base g cap : Nat} {e : TypeId} {xs : List α}
/-- One cell of an element of a row laid anew. -/
theorem Ow.put (h : Ow d e w base S (.slice (some ⟨g, 0, none⟩) xs.length cap) xs) (k i : Nat) (hk : k < xs.length) (hi : i < d.sz) (u : Value) (x' : α)
    (hx : ∀ cs, d.K w (fun b => S b ∧ b ≠ g) xs[k] cs → d.K w (fun b => S b ∧ b ≠ g) x' (cs.set i u)) :
    Ow d e (w.setCell ⟨g, k * d.sz + i, none⟩ u) base S (.slice (some ⟨g, 0, none⟩) xs.length cap) (xs.set k x') ∧ Upd (fun b => b = g) w (w.setCell ⟨g, k * d.sz + i, none⟩ u) := by
  have hz := h.2.1
  obtain ⟨cur, hh, hb, hS, hn, hm, hs, hx0⟩ := h.open_
  have h2 := heap_setCell_same w g (k * d.sz + i) cur e u hh
  have hu : Upd (fun b => b = g) w (w.setCell ⟨g, k * d.sz + i, none⟩ u) := Upd.set (S := fun b => b = g) (Upd.refl _ _) (.inl rfl) u
  refine ⟨?_, hu⟩
  have hcl : cur.toList.length = cap * d.sz := by rw [Array.length_toList, hs]
  have hle : xs.length * d.sz ≤ cap * d.sz := Nat.mul_le_mul_right _ hn
  have hk1 : (k + 1) * d.sz ≤ xs.length * d.sz := Nat.mul_le_mul_right _ hk
  rw [Nat.succ_mul] at hk1
  refine (fun h => by rw [List.length_set] at h; exact h) (Ow.shut (xs := xs.set k x') (cap := cap) _ h2 hb hS (by rw [List.length_set]; exact hn) hm (by simpa using hs) (by rw [List.length_set]; exact hz) fun j x hj => ?_)
  have hmv : ∀ (y : α) cs, d.K w (fun b => S b ∧ b ≠ g) y cs → d.K (w.setCell ⟨g, k * d.sz + i, none⟩ u) (fun b => S b ∧ b ≠ g) y cs := fun y cs hy => d.move (fun b hb' => by
    rw [heap_setCell_other w ⟨g, k * d.sz + i, none⟩ b u hb'.2]) hy
  rw [Array.toList_setIfInBounds]
  rw [List.getElem?_set] at hj
  by_cases hjk : k = j
  · subst hjk
    rw [if_pos rfl, if_pos hk] at hj
    injection hj with hj
    subst hj
    have h3 := hx _ (hx0 k _ (List.getElem?_eq_getElem hk))
    have h4 : (List.drop (k * d.sz) (cur.toList.set (k * d.sz + i) u)).take d.sz = ((cur.toList.drop (k * d.sz)).take d.sz).set i u := by
      rw [List.drop_set, if_neg (by omega), Nat.add_sub_cancel_left, List.take_set]
    rw [h4]
    exact hmv _ _ h3
  · rw [if_neg hjk] at hj
    have h3 := hx0 j x hj
    have hj1 : j < xs.length := (List.getElem?_eq_some_iff.1 hj).1
    have h4 : (List.drop (j * d.sz) (cur.toList.set (k * d.sz + i) u)).take d.sz = (cur.toList.drop (j * d.sz)).take d.sz := by
      rcases Nat.lt_or_ge j k with h5 | h5
      · have h6 : (j + 1) * d.sz ≤ k * d.sz := Nat.mul_le_mul_right _ h5
        rw [Nat.succ_mul] at h6
        rw [List.drop_set, if_neg (by omega), List.take_set_of_le (by omega)]
      · have h6 : (k + 1) * d.sz ≤ j * d.sz := Nat.mul_le_mul_right _ (by omega)
        rw [Nat.succ_mul] at h6
        rw [List.drop_set_of_lt (by omega)]
    rw [h4]
    exact hmv _ _ h3
end
/-- A message in memory of the call's own: its voters, its bytes, its entries, one behind the other. -/
def MsgO (w : World) (base : Nat) (v : Value) (m : MsgS) : Prop :=
  ∃ b1 b2 ve vv vd, base ≤ b1 ∧ b1 ≤ b2 ∧ v = .agg (msgC m ve vv vd) ∧ Ow (kEntO b2) 71 w b2 (b2 ≤ ·) ve m.entries ∧ Ow kInt 3 w base (fun b => base ≤ b ∧ b < b1) vv m.voters ∧ Ow kByte 5 w b1 (fun b => b1 ≤ b ∧ b < b2) vd m.data ∧ MsgI m
theorem Rs.ents_own {w : World} {S : Nat → Prop} {base : Nat} {v : Value} {es : List EntS} (h : Rs (kEntO base) w S v es) : Rs kEnt w S v es := by
  obtain ⟨A, c, rfl, h1, h2, h3, h4⟩ := h
  refine ⟨A, c, rfl, h1, h2, h3, fun hp => ?_⟩
  obtain ⟨ad, rfl, h5, h6, h7⟩ := h4 hp
  exact ⟨ad, rfl, h5, h6, fun j x hj => let ⟨cs, hK, hc⟩ := h7 j x hj; ⟨cs, kEntO_ent hK, hc⟩⟩
theorem MsgO.v {w : World} {base : Nat} {v : Value} {m : MsgS} (h : MsgO w base v m) : MsgV w (base ≤ ·) v m := by
  obtain ⟨b1, b2, ve, vv, vd, hb1, hb2, rfl, h1, h2, h3, h4⟩ := h
  exact ⟨ve, vv, vd, rfl, h1.rs.ents_own.mono fun b hb => by omega, h2.rs.mono fun b hb => hb.1, h3.rs.mono fun b hb => by omega, h4⟩
theorem MsgO.keep {w w' : World} {base : Nat} {v : Value} {m : MsgS} (h : MsgO w base v m) (hk : ∀ b, base ≤ b → b < w.heap.size → w'.heap[b]? = w.heap[b]?) : MsgO w' base v m := by
  obtain ⟨b1, b2, ve, vv, vd, hb1, hb2, rfl, h1, h2, h3, h4⟩ := h
  exact ⟨b1, b2, ve, vv, vd, hb1, hb2, rfl, h1.keep fun b hb => hk b (by omega), h2.keep fun b hb => hk b hb.1, h3.keep fun b hb => hk b (by omega), h4⟩
theorem MsgO.ext {w w' : World} {base : Nat} {v : Value} {m : MsgS} (h : MsgO w base v m) (he : Ext w w') : MsgO w' base v m := h.keep fun b _ hb => he.block b hb
theorem Ow.flag0 {w : World} {S : Nat → Prop} {b0 base : Nat} {v : Value} {es : List EntS} (h : Ow kEnt 71 w base S v es) : Ow (kEntF b0) 71 w base S v (flags es 0) := by
  obtain ⟨h0, hz, cells, ho, hx⟩ := h
  refine ⟨h0, by rw [flags_len]; exact hz, cells, by rw [flags_len]; exact ho, fun j x hj => ?_⟩
  rw [flags_get] at hj
  obtain ⟨e, he, rfl⟩ := Option.map_eq_some_iff.1 hj
  rw [show decide (j < 0) = false by simp]
  exact hx j e he
/-- All bytes are the call's own: the row too. -/
theorem Ow.ents_all {w : World} {S : Nat → Prop} {base : Nat} {v : Value} {es : List EntS} (h : Ow (kEntF base) 71 w base S v (flags es es.length)) : Ow (kEntO base) 71 w base (base ≤ ·) v es := by
  rcases Nat.eq_zero_or_pos es.length with h0 | h0
  · have : es = [] := List.eq_nil_of_length_eq_zero h0
    subst this
    obtain ⟨h1, h2, cells, ho, _⟩ := h
    refine ⟨fun k hk => ownsRow_base ho k hk, by simp, cells, ho, fun j x hj => by simp at hj⟩
  · obtain ⟨g, cap, rfl, hb, hl, hc, hS⟩ := h.form (by rw [flags_len]; exact h0)
    have hz := h.2.1
    obtain ⟨cur, hh, hb, hS, hn, hm, hs, hx⟩ := h.open_
    rw [flags_len] at hn hz
    have h1 := Ow.shut (d := kEntO base) (S := (base ≤ ·)) (base := base) (xs := es) (cap := cap) cur hh hb hb hn hm hs hz fun j x hj => by
      have h2 := hx j (x, true) (by
        rw [flags_get, hj]
        have := (List.getElem?_eq_some_iff.1 hj).1
        simp [this])
      have h3 : (kEntO base).K w (fun b => (S b ∧ b ≠ g) ∧ base ≤ b) x ((cur.toList.drop (j * 3)).take 3) := h2
      exact (kEntO base).mono (fun b hb' => ⟨hb'.2, hb'.1.2⟩) h3
    rw [flags_len]
    exact h1
end Go.Proofs.Ytfflcnlgkbgbhaa
set_option linter.unusedVariables false
set_option linter.unusedSimpArgs false
namespace Go.Proofs.Ytfflcnlgkbgbhaa
open Go.RowKit

set_option maxRecDepth 1000000 in
set_option maxHeartbeats 4000000 in
theorem ow1 {K : Act → World → Prop} {Q : Exit → Act → World → Prop} {w : World} {c0 c2 c3 c4 c5 c6 c7 c8 c9 c10 c11 c12 c13 c14 c15 c16 c17 c18 c19 c20 c21 c22 c23 c24 c25 c26 c27 c28 c29 c30 c31 c32 c33 c34 c35 : Value} (q : Nat) (T : Nat → Prop) (m : MsgS) (Ae Av Ad : Option Addr) (ce cv cd : Nat) (hb : Hid (w.heap[q]? = some (.cells (msgC m (.slice Ae m.entries.length ce) (.slice Av m.voters.length cv) (.slice Ad m.data.length cd)) 26 (0, 0)))) (he : Hid (Rs kEnt w T (.slice Ae m.entries.length ce) m.entries)) (hv : Hid (Rs kInt w T (.slice Av m.voters.length cv) m.voters)) (hd : Hid (Rs kByte w T (.slice Ad m.data.length cd) m.data)) (hT : ∀ b, T b → b < q) (hL : m.entries.length ≤ 65536 ∧ m.voters.length ≤ 65536 ∧ m.data.length ≤ 65536)
    (hK : ∀ (u4 u5 u6 u7 u8 u9 u10 u11 u12 u13 u14 u15 : Value) (wx : World), Hid (∃ b1 b2, w.heap.size ≤ b1 ∧ b1 ≤ b2 ∧ ∃ ve vv vd, wx.heap[q]? = some (.cells (msgC m ve vv vd) 26 (0, 0)) ∧ Ow kEnt 71 wx b2 (fun b => b2 ≤ b ∨ T b) ve m.entries ∧ Ow kInt 3 wx w.heap.size (fun b => w.heap.size ≤ b ∧ b < b1) vv m.voters ∧ Ow kByte 5 wx b1 (fun b => b1 ≤ b ∧ b < b2) vd m.data ∧ Upd (fun b => b = q) w wx) → K ⟨#[c0, .pointer (some ⟨q, 0, none⟩), c2, c3, u4, u5, u6, u7, u8, u9, u10, u11, u12, u13, u14, u15, c16, c17, c18, c19, c20, c21, c22, c23, c24, c25, c26, c27, c28, c29, c30, c31, c32, c33, c34, c35], []⟩ wx) :
    Code.wp Try.prog ((Try.f12.body.bind (regionAt 1)).getD .skip) (Exit.then K Q) ⟨#[c0, .pointer (some ⟨q, 0, none⟩), c2, c3, c4, c5, c6, c7, c8, c9, c10, c11, c12, c13, c14, c15, c16, c17, c18, c19, c20, c21, c22, c23, c24, c25, c26, c27, c28, c29, c30, c31, c32, c33, c34, c35], []⟩ w := by
  conv => arg 2; whnf
  have hK2 := Lib.hid @hK
  have HS1 := Lib.hid (show ∀ W : World, W.heap[q]? = some (.cells (msgC m (.slice Ae m.entries.length ce) (.slice Av m.voters.length cv) (.slice Ad m.data.length cd)) 26 (0, 0)) → W.cell? ⟨q, 10, none⟩ = some (.slice Ae m.entries.length ce) ∧ W.cell? ⟨q, 11, none⟩ = some (.slice Av m.voters.length cv) ∧ W.cell? ⟨q, 12, none⟩ = some (.slice Ad m.data.length cd) from fun W h => ⟨cell_blk h 10, cell_blk h 11, cell_blk h 12⟩)
  have HL := Lib.hid hL
  have HT := Lib.hid hT
  have HQL := Lib.hid (blk_lt hb.out)
  clear hK hL hT
  have hb0 := Lib.hid (show w.drew.heap[q]? = some (.cells (msgC m (.slice Ae m.entries.length ce) (.slice Av m.voters.length cv) (.slice Ad m.data.length cd)) 26 (0, 0)) from hb.out)
  have hx0 := Lib.hid (show Ext w w.drew from (Ext.refl w).drew)
  refine wpF_region (fun _ => True) (fun W => W.cell? ⟨q, 10, none⟩ = some (.slice Ae m.entries.length ce) ∧ W.cell? ⟨q, 11, none⟩ = some (.slice Av m.voters.length cv) ∧ W.cell? ⟨q, 12, none⟩ = some (.slice Ad m.data.length cd)) 10 15 (by kernel_rfl) (by kernel_rfl) ?_
  refine wpF_take0 (i := 0) (v := ?v1) rfl (by kernel_rfl) (by kernel_rfl) (by kernel_rfl) (fun _ _ _ h => h) (by kernel_rfl) (Or.inl ⟨by rfl, ?hy1⟩) trivial (fun _ => HS1.out _ hb0.out) ?rest1
  case hy1 => (intro W hSW; (try dsimp only at hSW); go_simp; (try with_reducible rfl))
  (try simp only [Act.put, List.setIfInBounds_toArray, List.set_cons_zero, List.set_cons_succ])
  refine wpF_take1 (i := 1) (v := ?v2) rfl (by kernel_rfl) (by kernel_rfl) (by kernel_rfl) (fun _ _ _ h => h) (by kernel_rfl) (by kernel_rfl) (by kernel_rfl) (Or.inl ⟨by rfl, ?hy2⟩) trivial (fun _ => HS1.out _ hb0.out) ?rest2
  case hy2 => (intro W hSW; (try dsimp only at hSW); go_simp; (try with_reducible rfl))
  (try simp only [Act.put, List.setIfInBounds_toArray, List.set_cons_zero, List.set_cons_succ])
  refine wpF_take0 (i := 3) (v := ?v3) rfl (by kernel_rfl) (by kernel_rfl) (by kernel_rfl) (fun _ _ _ h => h) (by kernel_rfl) (Or.inl ⟨by rfl, ?hy3⟩) trivial (fun _ => HS1.out _ hb0.out) ?rest3
  case hy3 => (intro W hSW; (try dsimp only at hSW); go_simp; (try with_reducible rfl))
  (try simp only [Act.put, List.setIfInBounds_toArray, List.set_cons_zero, List.set_cons_succ])
  refine wpF_take1 (i := 4) (v := ?v4) rfl (by kernel_rfl) (by kernel_rfl) (by kernel_rfl) (fun _ _ _ h => h) (by kernel_rfl) (by kernel_rfl) (by kernel_rfl) (Or.inl ⟨by rfl, ?hy4⟩) trivial (fun _ => HS1.out _ hb0.out) ?rest4
  case hy4 => (intro W hSW; (try dsimp only at hSW); go_simp; (try with_reducible rfl))
  (try simp only [Act.put, List.setIfInBounds_toArray, List.set_cons_zero, List.set_cons_succ])
  refine wpF_take0 (i := 6) (v := ?v5) rfl (by kernel_rfl) (by kernel_rfl) (by kernel_rfl) (fun _ _ _ h => h) (by kernel_rfl) (Or.inl ⟨by rfl, ?hy5⟩) trivial (fun _ => HS1.out _ hb0.out) ?rest5
  case hy5 => (intro W hSW; (try dsimp only at hSW); go_simp; (try with_reducible rfl))
  (try simp only [Act.put, List.setIfInBounds_toArray, List.set_cons_zero, List.set_cons_succ])
  refine wpF_take1 (i := 7) (v := ?v6) rfl (by kernel_rfl) (by kernel_rfl) (by kernel_rfl) (fun _ _ _ h => h) (by kernel_rfl) (by kernel_rfl) (by kernel_rfl) (Or.inl ⟨by rfl, ?hy6⟩) trivial (fun _ => HS1.out _ hb0.out) ?rest6
  case hy6 => (intro W hSW; (try dsimp only at hSW); go_simp; (try with_reducible rfl))
  (try simp only [Act.put, List.setIfInBounds_toArray, List.set_cons_zero, List.set_cons_succ])
  refine wpF_step (i := 2) (by kernel_rfl) rfl (fun K hK => ?_)
  go_simp
  refine (CloneI_calls _ T _ _ (hv.out.ext hx0.out) (by have := HL.out; omega)).mono ?_
  rintro e w4 ⟨vv, rfl, ho4, hx⟩
  have hb4 := Lib.hid (blk_ext hb0.out hx)
  have hx4 := Lib.hid (hx0.out.trans hx)
  have ho4 := Lib.hid ho4
  clear hx
  (try go_wp2_with fail)
  refine hK.out _ _ trivial (fun _ => HS1.out _ hb4.out) ?_
  clear hK K
  (try simp only [Act.put, List.setIfInBounds_toArray, List.set_cons_zero, List.set_cons_succ])
  refine wpF_take0 (i := 9) (v := ?v7) rfl (by kernel_rfl) (by kernel_rfl) (by kernel_rfl) (fun _ _ _ h => h) (by kernel_rfl) (Or.inl ⟨by rfl, ?hy7⟩) trivial (fun _ => HS1.out _ hb4.out) ?rest7
  case hy7 => (intro W hSW; (try dsimp only at hSW); go_simp; (try with_reducible rfl))
  (try simp only [Act.put, List.setIfInBounds_toArray, List.set_cons_zero, List.set_cons_succ])
  refine wpF_step (i := 5) (by kernel_rfl) rfl (fun K hK => ?_)
  go_simp
  refine (Clone_calls _ T _ _ (hd.out.ext hx4.out) (by have := HL.out; omega)).mono ?_
  rintro e w5 ⟨vd, rfl, ho5, hx⟩
  have hb5 := Lib.hid (blk_ext hb4.out hx)
  have hx5 := Lib.hid (hx4.out.trans hx)
  have hx45 := Lib.hid hx
  have ho5 := Lib.hid ho5
  clear hx
  (try go_wp2_with fail)
  refine hK.out _ _ trivial (fun _ => HS1.out _ hb5.out) ?_
  clear hK K
  (try simp only [Act.put, List.setIfInBounds_toArray, List.set_cons_zero, List.set_cons_succ])
  refine wpF_step (i := 8) (by kernel_rfl) rfl (fun K hK => ?_)
  go_simp
  refine (CloneEnt_calls _ T _ _ (he.out.ext hx5.out) (by have := HL.out; omega)).mono ?_
  rintro e w6 ⟨ve, rfl, ho6, hx⟩
  have hb6 := Lib.hid (blk_ext hb5.out hx)
  have hx6 := Lib.hid (hx5.out.trans hx)
  have hx56 := Lib.hid hx
  have ho6 := Lib.hid ho6
  clear hx
  (try go_wp2_with fail)
  refine hK.out _ _ trivial (fun _ => HS1.out _ hb6.out) ?_
  clear hK K
  (try simp only [Act.put, List.setIfInBounds_toArray, List.set_cons_zero, List.set_cons_succ])
  have hs4 := hx4.out.le
  have hvo := Lib.hid (show Ow kInt 3 w6 w.heap.size (fun b => w.heap.size ≤ b ∧ b < w4.heap.size) vv m.voters from
    (((ho4.out.bound.lower hx0.out.le).mono (fun b hb => ⟨Nat.le_trans hx0.out.le hb.1, hb.2⟩)).ext hx45.out).ext hx56.out)
  have hdo := Lib.hid (show Ow kByte 5 w6 w4.heap.size (fun b => w4.heap.size ≤ b ∧ b < w5.heap.size) vd m.data from ho5.out.bound.ext hx56.out)
  have heo := Lib.hid (show Ow kEnt 71 w6 w5.heap.size (fun b => w5.heap.size ≤ b ∨ T b) ve m.entries from ho6.out)
  obtain ⟨Av2, nv2, cv2, hvv⟩ : ∃ A x c, vv = .slice A x c := by obtain ⟨A, c, e, _⟩ := id hvo.out.rs; exact ⟨_, _, _, e⟩
  obtain ⟨Ad2, nd2, cd2, hvd⟩ : ∃ A x c, vd = .slice A x c := by obtain ⟨A, c, e, _⟩ := id hdo.out.rs; exact ⟨_, _, _, e⟩
  obtain ⟨Ae2, ne2, ce2, hve⟩ : ∃ A x c, ve = .slice A x c := by obtain ⟨A, c, e, _⟩ := id heo.out.rs; exact ⟨_, _, _, e⟩
  subst hvv
  subst hvd
  subst hve
  have hcs := cell_blk hb6.out 11
  have hfs := frozen_blk hb6.out 11
  simp only [msgC, List.getElem?_toArray, List.getElem?_cons_zero, List.getElem?_cons_succ] at hcs
  have hb7 := Lib.hid (show ((w6).setCell ⟨q, 11, none⟩ (.slice Av2 nv2 cv2)).heap[q]? = some (.cells (msgC m (.slice Ae m.entries.length ce) (.slice Av2 nv2 cv2) (.slice Ad m.data.length cd)) 26 (0, 0)) from heap_setCell_same _ q 11 _ _ (.slice Av2 nv2 cv2) hb6.out)
  refine wpF_step (i := 10) (by kernel_rfl) rfl (fun K hK => ?_)
  go_simp
  refine hK.out _ _ trivial (gone (by kernel_rfl)) ?_
  clear hK K
  (try simp only [Act.put, List.setIfInBounds_toArray, List.set_cons_zero, List.set_cons_succ])
  clear hcs hfs
  refine wpF_take0 (i := 11) (v := ?v8) rfl (by kernel_rfl) (by kernel_rfl) (by kernel_rfl) (fun _ _ _ h => h) (by kernel_rfl) (Or.inl ⟨by rfl, ?hy8⟩) trivial (gone (by kernel_rfl)) ?rest8
  case hy8 => (intro W hSW; (try dsimp only at hSW); go_simp; (try with_reducible rfl))
  (try simp only [Act.put, List.setIfInBounds_toArray, List.set_cons_zero, List.set_cons_succ])
  have hcs := cell_blk hb7.out 12
  have hfs := frozen_blk hb7.out 12
  simp only [msgC, List.getElem?_toArray, List.getElem?_cons_zero, List.getElem?_cons_succ] at hcs
  have hb8 := Lib.hid (show (((w6.setCell ⟨q, 11, none⟩ (.slice Av2 nv2 cv2))).setCell ⟨q, 12, none⟩ (.slice Ad2 nd2 cd2)).heap[q]? = some (.cells (msgC m (.slice Ae m.entries.length ce) (.slice Av2 nv2 cv2) (.slice Ad2 nd2 cd2)) 26 (0, 0)) from heap_setCell_same _ q 12 _ _ (.slice Ad2 nd2 cd2) hb7.out)
  refine wpF_step (i := 12) (by kernel_rfl) rfl (fun K hK => ?_)
  go_simp
  refine hK.out _ _ trivial (gone (by kernel_rfl)) ?_
  clear hK K
  (try simp only [Act.put, List.setIfInBounds_toArray, List.set_cons_zero, List.set_cons_succ])
  clear hcs hfs
  refine wpF_take0 (i := 13) (v := ?v9) rfl (by kernel_rfl) (by kernel_rfl) (by kernel_rfl) (fun _ _ _ h => h) (by kernel_rfl) (Or.inl ⟨by rfl, ?hy9⟩) trivial (gone (by kernel_rfl)) ?rest9
  case hy9 => (intro W hSW; (try dsimp only at hSW); go_simp; (try with_reducible rfl))
  (try simp only [Act.put, List.setIfInBounds_toArray, List.set_cons_zero, List.set_cons_succ])
  have hcs := cell_blk hb8.out 10
  have hfs := frozen_blk hb8.out 10
  simp only [msgC, List.getElem?_toArray, List.getElem?_cons_zero, List.getElem?_cons_succ] at hcs
  have hb9 := Lib.hid (show ((((w6.setCell ⟨q, 11, none⟩ (.slice Av2 nv2 cv2)).setCell ⟨q, 12, none⟩ (.slice Ad2 nd2 cd2))).setCell ⟨q, 10, none⟩ (.slice Ae2 ne2 ce2)).heap[q]? = some (.cells (msgC m (.slice Ae2 ne2 ce2) (.slice Av2 nv2 cv2) (.slice Ad2 nd2 cd2)) 26 (0, 0)) from heap_setCell_same _ q 10 _ _ (.slice Ae2 ne2 ce2) hb8.out)
  refine wpF_step (i := 14) (by kernel_rfl) rfl (fun K hK => ?_)
  go_simp
  refine hK.out _ _ trivial (gone (by kernel_rfl)) ?_
  clear hK K
  (try simp only [Act.put, List.setIfInBounds_toArray, List.set_cons_zero, List.set_cons_succ])
  clear hcs hfs
  refine wpF_done (by kernel_rfl) ?_ _
  refine NoPanic.normal ?_
  have hq4 : ¬ (w.heap.size ≤ q) := by have := HQL.out; omega
  have h4 := hx4.out.le
  have h45 := hx45.out.le
  exact hK2.out _ _ _ _ _ _ _ _ _ _ _ _ _  (Lib.hid ⟨w4.heap.size, w5.heap.size, hx4.out.le, hx45.out.le, (.slice Ae2 ne2 ce2), (.slice Av2 nv2 cv2), (.slice Ad2 nd2 cd2), hb9.out,
    ((heo.out.seti (fun h => by rcases h with h | h; omega; have := HT.out q h; omega) _).seti (fun h => by rcases h with h | h; omega; have := HT.out q h; omega) _).seti (fun h => by rcases h with h | h; omega; have := HT.out q h; omega) _,
    ((hvo.out.seti (fun h => hq4 h.1) _).seti (fun h => hq4 h.1) _).seti (fun h => hq4 h.1) _,
    ((hdo.out.seti (fun h => by omega) _).seti (fun h => by omega) _).seti (fun h => by omega) _,
    (((hx6.out.upd (fun b => b = q)).set (S := fun b => b = q) (.inl rfl) _).set (S := fun b => b = q) (.inl rfl) _).set (S := fun b => b = q) (.inl rfl) _⟩)
set_option maxRecDepth 1000000 in
set_option maxHeartbeats 4000000 in
theorem ow5 {Q : Exit → Act → World → Prop} {w : World} {c0 c2 c4 c5 c6 c7 c8 c9 c10 c11 c12 c13 c14 c15 c16 c17 c18 c19 c20 c21 c22 c23 c24 c25 c26 c27 c28 c29 c30 c31 c32 c33 c34 c35 : Value} (q ge cap k b2 : Nat) (T : Nat → Prop) (es : List EntS) (hk : k < es.length) (hq : Hid (w.cell? ⟨q, 10, none⟩ = some (.slice (some ⟨ge, 0, none⟩) es.length cap))) (hgb : b2 ≤ ge) (hqg : q ≠ ge) (hql : q < w.heap.size) (hw2 : b2 ≤ w.heap.size) (hr : Hid (Ow (kEntF b2) 71 w b2 (fun b => b2 ≤ b ∨ T b) (.slice (some ⟨ge, 0, none⟩) es.length cap) (flags es k))) (hld : es[k].data.length ≤ 65536) (hcap : es.length ≤ 65536)
    (hK : ∀ (u22 u23 u24 u25 u26 u27 u28 u29 u30 u31 u32 u33 : Value) (wx : World), Hid (Ow (kEntF b2) 71 wx b2 (fun b => b2 ≤ b ∨ T b) (.slice (some ⟨ge, 0, none⟩) es.length cap) (flags es (k + 1)) ∧ Upd (fun b => b = ge) w wx) → Q .normal ⟨#[c0, .pointer (some ⟨q, 0, none⟩), c2, .int .i64 (k : Int), c4, c5, c6, c7, c8, c9, c10, c11, c12, c13, c14, c15, c16, c17, c18, c19, c20, c21, u22, u23, u24, u25, u26, u27, u28, u29, u30, u31, u32, u33, c34, c35], []⟩ wx) :
    Code.wp Try.prog ((Try.f12.body.bind (regionAt 5)).getD .skip) Q ⟨#[c0, .pointer (some ⟨q, 0, none⟩), c2, .int .i64 (k : Int), c4, c5, c6, c7, c8, c9, c10, c11, c12, c13, c14, c15, c16, c17, c18, c19, c20, c21, c22, c23, c24, c25, c26, c27, c28, c29, c30, c31, c32, c33, c34, c35], []⟩ w := by
  conv => arg 2; whnf
  have hK2 := Lib.hid @hK
  obtain ⟨cur, hh, -, hSg, hn, hm, hs, hx⟩ := (show Ow (kEntF b2) 71 w b2 (fun b => b2 ≤ b ∨ T b) (.slice (some ⟨ge, 0, none⟩) (flags es k).length cap) (flags es k) by rw [flags_len]; exact hr.out).open_
  have hgl := blk_lt hh
  have hkk := hx k (es[k], false) (by rw [flags_get, List.getElem?_eq_getElem hk]; simp)
  have hk3 : kEnt.K w (fun b => (fun b => b2 ≤ b ∨ T b) b ∧ b ≠ ge) es[k] ((cur.toList.drop (k * 3)).take 3) := hkk
  obtain ⟨vd0, hcs, hd0, hi0, ht0⟩ := kEnt_iff.1 hk3
  obtain ⟨Dd, cdd, e0, _⟩ := id hd0
  subst e0
  have hcell : w.cell? ⟨ge, k * 3 + 2, none⟩ = some (.slice Dd es[k].data.length cdd) := by
    rw [cell_blk hh]
    have h := congrArg (fun l => l[2]?) hcs
    simp only [List.getElem?_take, List.getElem?_drop, List.getElem?_cons_succ, List.getElem?_cons_zero] at h
    rw [if_pos (by omega)] at h
    rw [← Array.getElem?_toList]
    exact h
  have HD := Lib.hid hd0
  have HGE := Lib.hid hgl
  have HXT := Lib.hid (show ∀ W u, Ext w W → Ow kByte 5 W w.heap.size (w.heap.size ≤ ·) u es[k].data → Ow (kEntF b2) 71 (W.setCell ⟨ge, k * 3 + 2, none⟩ u) b2 (fun b => b2 ≤ b ∨ T b) (.slice (some ⟨ge, 0, none⟩) es.length cap) (flags es (k + 1)) from fun W u hxw hou => by
    have h1 := Ow.put (d := kEntF b2) (xs := flags es k) (cap := cap) (g := ge) (show Ow (kEntF b2) 71 W b2 (fun b => b2 ≤ b ∨ T b) (.slice (some ⟨ge, 0, none⟩) (flags es k).length cap) (flags es k) by rw [flags_len]; exact hr.out.ext hxw) k 2 (by rw [flags_len]; exact hk) (show 2 < 3 by decide) u (es[k], true) (fun cs hcs => by
      have hfl : (flags es k)[k]'(by rw [flags_len]; exact hk) = (es[k], false) := by
        have h := flags_get es k k
        rw [List.getElem?_eq_getElem (by rw [flags_len]; exact hk), List.getElem?_eq_getElem hk] at h
        simpa using h
      rw [hfl] at hcs
      have hcs2 : kEnt.K W (fun b => (fun b => b2 ≤ b ∨ T b) b ∧ b ≠ ge) es[k] cs := hcs
      obtain ⟨v1, rfl, _, i1, t1⟩ := kEnt_iff.1 hcs2
      show (kEntO b2).K W (fun b => ((fun b => b2 ≤ b ∨ T b) b ∧ b ≠ ge) ∧ b2 ≤ b) es[k] [.int .i64 es[k].index, .int .i64 es[k].term, u]
      exact kEntO_iff.2 ⟨u, rfl, (hou.lower hw2).mono (fun b hb => by have hb' : w.heap.size ≤ b := hb; exact ⟨⟨.inl (by omega), by omega⟩, by omega⟩), i1, t1⟩)
    rw [flags_len, flags_set es k hk] at h1
    exact h1.1)
  clear hK hkk hk3 hcs hh hx hs hm hn hi0 ht0 hd0 cur hSg
  have hki : (k : Int) < (es.length : Int) := by omega
  have HLD := Lib.hid hld
  generalize hxd : es[k].data = xd at hcell HD HXT HLD
  clear hxd
  have hc0 := Lib.hid (show w.drew.cell? ⟨q, 10, none⟩ = some (.slice (some ⟨ge, 0, none⟩) es.length cap) from hq.out)
  have hc1 := Lib.hid (show w.drew.cell? ⟨ge, k * 3 + 2, none⟩ = some (.slice Dd xd.length cdd) from hcell)
  clear hcell
  refine wpF_region (fun W => W.cell? ⟨q, 10, none⟩ = some (.slice (some ⟨ge, 0, none⟩) es.length cap)) (fun W => W.cell? ⟨ge, k * 3 + 2, none⟩ = some (.slice Dd xd.length cdd)) 9 13 (by kernel_rfl) (by kernel_rfl) ?_
  refine wpF_take0 (i := 0) (v := ?v10) rfl (by kernel_rfl) (by kernel_rfl) (by kernel_rfl) (fun _ _ _ h => h) (by kernel_rfl) (Or.inl ⟨by rfl, ?hy10⟩) hc0.out (fun _ => hc1.out) ?rest10
  case hy10 => (intro W hSW; (try dsimp only at hSW); go_simp; (try with_reducible rfl))
  (try simp only [Act.put, List.setIfInBounds_toArray, List.set_cons_zero, List.set_cons_succ])
  refine wpF_take0 (i := 1) (v := ?v11) rfl (by kernel_rfl) (by kernel_rfl) (by kernel_rfl) (fun _ _ _ h => h) (by kernel_rfl) (Or.inl ⟨by rfl, ?hy11⟩) hc0.out (fun _ => hc1.out) ?rest11
  case hy11 => (intro W hSW; (try dsimp only at hSW); go_simp; (try with_reducible rfl))
  (try simp only [Act.put, List.setIfInBounds_toArray, List.set_cons_zero, List.set_cons_succ])
  refine wpF_take0 (i := 2) (v := ?v12) rfl (by kernel_rfl) (by kernel_rfl) (by kernel_rfl) (fun _ _ _ h => h) (by kernel_rfl) (Or.inl ⟨by rfl, ?hy12⟩) hc0.out (fun _ => hc1.out) ?rest12
  case hy12 => (intro W hSW; (try dsimp only at hSW); go_simp; (try with_reducible rfl))
  (try simp only [Act.put, List.setIfInBounds_toArray, List.set_cons_zero, List.set_cons_succ])
  refine wpF_take0 (i := 3) (v := ?v13) rfl (by kernel_rfl) (by kernel_rfl) (by kernel_rfl) (fun _ _ _ h => h) (by kernel_rfl) (Or.inl ⟨by rfl, ?hy13⟩) hc0.out (fun _ => hc1.out) ?rest13
  case hy13 => (intro W hSW; (try dsimp only at hSW); go_simp; (try with_reducible rfl))
  (try simp only [Act.put, List.setIfInBounds_toArray, List.set_cons_zero, List.set_cons_succ])
  refine wpF_take0 (i := 4) (v := ?v14) rfl (by kernel_rfl) (by kernel_rfl) (by kernel_rfl) (fun _ _ _ h => h) (by kernel_rfl) (Or.inl ⟨by rfl, ?hy14⟩) hc0.out (fun _ => hc1.out) ?rest14
  case hy14 => (intro W hSW; (try dsimp only at hSW); go_simp; (try with_reducible rfl))
  (try simp only [Act.put, List.setIfInBounds_toArray, List.set_cons_zero, List.set_cons_succ])
  refine wpF_take0 (i := 5) (v := ?v15) rfl (by kernel_rfl) (by kernel_rfl) (by kernel_rfl) (fun _ _ _ h => h) (by kernel_rfl) (Or.inl ⟨by rfl, ?hy15⟩) hc0.out (fun _ => hc1.out) ?rest15
  case hy15 => (intro W hSW; (try dsimp only at hSW); go_simp; (try with_reducible rfl))
  (try simp only [Act.put, List.setIfInBounds_toArray, List.set_cons_zero, List.set_cons_succ])
  refine wpF_take0 (i := 6) (v := ?v16) rfl (by kernel_rfl) (by kernel_rfl) (by kernel_rfl) (fun _ _ _ h => h) (by kernel_rfl) (Or.inl ⟨by rfl, ?hy16⟩) hc0.out (fun _ => hc1.out) ?rest16
  case hy16 => (intro W hSW; (try dsimp only at hSW); go_simp; (try with_reducible rfl))
  (try simp only [Act.put, List.setIfInBounds_toArray, List.set_cons_zero, List.set_cons_succ])
  refine wpF_take0 (i := 7) (v := ?v17) rfl (by kernel_rfl) (by kernel_rfl) (by kernel_rfl) (fun _ _ _ h => h) (by kernel_rfl) (Or.inl ⟨by rfl, ?hy17⟩) hc0.out (fun _ => hc1.out) ?rest17
  case hy17 => (intro W hSW; (try dsimp only at hSW); go_simp; (try with_reducible rfl))
  (try simp only [Act.put, List.setIfInBounds_toArray, List.set_cons_zero, List.set_cons_succ])
  refine wpF_take1 (i := 8) (v := ?v18) rfl (by kernel_rfl) (by kernel_rfl) (by kernel_rfl) (fun _ _ _ h => h) (by kernel_rfl) (by kernel_rfl) (by kernel_rfl) (Or.inl ⟨by rfl, ?hy18⟩) hc0.out (fun _ => hc1.out) ?rest18
  case hy18 => (intro W hSW; (try dsimp only at hSW); go_simp; (try with_reducible rfl))
  (try simp only [Act.put, List.setIfInBounds_toArray, List.set_cons_zero, List.set_cons_succ])
  refine wpF_step (i := 9) (by kernel_rfl) rfl (fun K hK => ?_)
  go_simp
  refine (Clone_calls _ _ _ _ (HD.out.drew) (by have := HLD.out; omega)).mono ?_
  rintro e w4 ⟨u, rfl, ho, hx⟩
  have hx4 := Lib.hid (((Ext.refl w).drew).trans hx)
  have hc4 := Lib.hid (show w4.cell? ⟨q, 10, none⟩ = some (.slice (some ⟨ge, 0, none⟩) es.length cap) by rw [hx.cell (p := ⟨q, 10, none⟩) hql]; exact hc0.out)
  have hg4 := Lib.hid (show w4.cell? ⟨ge, k * 3 + 2, none⟩ = some (.slice Dd xd.length cdd) by rw [hx.cell (p := ⟨ge, k * 3 + 2, none⟩) HGE.out]; exact hc1.out)
  have hfz := Lib.hid (show w4.frozen? ⟨ge, k * 3 + 2, none⟩ = false by obtain ⟨_, hh, _⟩ := (show Ow (kEntF b2) 71 w4 b2 (fun b => b2 ≤ b ∨ T b) (.slice (some ⟨ge, 0, none⟩) (flags es k).length cap) (flags es k) by rw [flags_len]; exact hr.out.ext hx4.out).open_; exact frozen_blk hh _)
  have ho4 := Lib.hid ho
  clear ho hx
  (try go_wp2_with fail)
  refine hK.out _ _ hc4.out (gone (by kernel_rfl)) ?_
  clear hK K
  (try simp only [Act.put, List.setIfInBounds_toArray, List.set_cons_zero, List.set_cons_succ])
  refine wpF_take0 (i := 10) (v := ?v19) rfl (by kernel_rfl) (by kernel_rfl) (by kernel_rfl) (fun _ _ _ h => h) (by kernel_rfl) (Or.inl ⟨by rfl, ?hy19⟩) hc4.out (gone (by kernel_rfl)) ?rest19
  case hy19 => (intro W hSW; (try dsimp only at hSW); go_simp; (try with_reducible rfl))
  (try simp only [Act.put, List.setIfInBounds_toArray, List.set_cons_zero, List.set_cons_succ])
  refine wpF_take0 (i := 11) (v := ?v20) rfl (by kernel_rfl) (by kernel_rfl) (by kernel_rfl) (fun _ _ _ h => h) (by kernel_rfl) (Or.inl ⟨by rfl, ?hy20⟩) hc4.out (gone (by kernel_rfl)) ?rest20
  case hy20 => (intro W hSW; (try dsimp only at hSW); go_simp; (try with_reducible rfl))
  (try simp only [Act.put, List.setIfInBounds_toArray, List.set_cons_zero, List.set_cons_succ])
  obtain ⟨Au, nu, cu, hu⟩ : ∃ A x c, u = .slice A x c := by obtain ⟨A, c, e, _⟩ := id ho4.out.rs; exact ⟨_, _, _, e⟩
  subst hu
  have hg5 := hg4.out
  have hf5 := hfz.out
  have hc5 := Lib.hid (show (w4.setCell ⟨ge, k * 3 + 2, none⟩ (.slice Au nu cu)).cell? ⟨q, 10, none⟩ = some (.slice (some ⟨ge, 0, none⟩) es.length cap) by
    rw [World.cell?_setCell_far w4 ⟨ge, k * 3 + 2, none⟩ ⟨q, 10, none⟩ _ (fun e => hqg (Eq.symm e))]
    exact hc4.out)
  refine wpF_step (i := 12) (by kernel_rfl) rfl (fun K hK => ?_)
  go_simp
  refine hK.out _ _ hc5.out (gone (by kernel_rfl)) ?_
  clear hK K
  (try simp only [Act.put, List.setIfInBounds_toArray, List.set_cons_zero, List.set_cons_succ])
  refine wpF_done (by kernel_rfl) ?_ _
  refine NoPanic.normal ?_
  exact hK2.out _ _ _ _ _ _ _ _ _ _ _ _ _  (Lib.hid ⟨HXT.out w4 _ hx4.out ho4.out, (hx4.out.upd (fun b => b = ge)).set (S := fun b => b = ge) (.inl rfl) _⟩)
end Go.Proofs.Ytfflcnlgkbgbhaa
set_option linter.unusedVariables false
set_option linter.unusedSimpArgs false
namespace Go.Proofs.Ytfflcnlgkbgbhaa
open Go.RowKit

set_option maxRecDepth 1000000 in
set_option maxHeartbeats 8000000 in
theorem own_calls (w : World) (S : Nat → Prop) (v : Value) (m : MsgS) (hm : MsgV w S v m) (hL : LightM m) :
    Calls Try.prog 12 #[v] w fun e w' => ∃ mv, e = .returned mv ∧ MsgO w' w.heap.size mv m ∧ Ext w w' := by
  obtain ⟨Ae, ce, Av, cv, Ad, cd, rfl, he, hv, hd, hI⟩ := hm.form
  have HE := Lib.hid he.under
  have HV := Lib.hid hv.under
  have HD := Lib.hid hd.under
  have HI := Lib.hid hI
  have HL := Lib.hid hL
  clear hm he hv hd hI hL
  dsimp only [msgC]
  go_enter Try.func12, Try.ntmps12
  go_upto_region 1 with fail
  obtain ⟨w1, hw1⟩ : ∃ w1, w1 = (w.alloc (.cells (msgC m (.slice Ae m.entries.length ce) (.slice Av m.voters.length cv) (.slice Ad m.data.length cd)) 26)).alloc (.cells (msgC zeroM (.slice none 0 0) (.slice none 0 0) (.slice none 0 0)) 26) := ⟨_, rfl⟩
  have HB1 := Lib.hid (show w1.heap[w.heap.size]? = some (.cells (msgC m (.slice Ae m.entries.length ce) (.slice Av m.voters.length cv) (.slice Ad m.data.length cd)) 26 (0, 0)) by rw [hw1]; exact blk_ext (heap_new w _ rfl _) ((Ext.refl _).alloc _))
  have HR1 := Lib.hid (show w1.heap[w.heap.size + 1]? = some (.cells (msgC zeroM (.slice none 0 0) (.slice none 0 0) (.slice none 0 0)) 26 (0, 0)) by rw [hw1]; exact heap_new _ _ (by simp) _)
  have HX1 := Lib.hid (show Ext w w1 by rw [hw1]; exact ((Ext.refl w).alloc _).alloc _)
  have HS1 := Lib.hid (show w1.heap.size = w.heap.size + 2 by rw [hw1]; simp)
  unfold msgC zeroM at hw1
  rw [← hw1]
  clear hw1
  refine ow1 w.heap.size (· < w.heap.size) m Ae Av Ad ce cv cd HB1 (Lib.hid (HE.out.ext HX1.out)) (Lib.hid (HV.out.ext HX1.out)) (Lib.hid (HD.out.ext HX1.out)) (fun b hb => hb) ⟨HL.out.ents, HL.out.vots, HL.out.data⟩ ?_
  intros
  rename_i w2 hrel
  obtain ⟨b1, b2, hb1, hb2, ve, vv, vd, hbk, hoe, hov, hod, hup⟩ := hrel.out
  have hsz1 := HS1.out
  have HQ2 := Lib.hid hbk
  have HR2 := Lib.hid (blk_upd HR1.out hup (by omega))
  have HX2 := Lib.hid (show Ext w w2 from hup.ext HX1.out (fun k hk => by have hk' : k = w.heap.size := hk; omega))
  have HOE := Lib.hid (hoe.flag0 (b0 := b2))
  have HOV := Lib.hid hov
  have HOD := Lib.hid hod
  have HB2 := Lib.hid (show w.heap.size + 2 ≤ b1 ∧ b1 ≤ b2 by omega)
  have HZE := Lib.hid (show m.entries.length ≤ 65536 from HL.out.ents)
  obtain ⟨Ae2, ce2, ee, _⟩ := id hoe.rs
  obtain ⟨Av2, cv2, ev, _⟩ := id hov.rs
  obtain ⟨Ad2, cd2, ed, _⟩ := id hod.rs
  subst ee
  subst ev
  subst ed
  have hb2w : b2 ≤ w2.heap.size ∨ m.entries.length = 0 := by
    rcases Nat.eq_zero_or_pos m.entries.length with h0 | h0
    · exact .inr h0
    · left
      obtain ⟨g, cap, e, h1, h2, _⟩ := hoe.form h0
      omega
  have HB2W := Lib.hid hb2w
  clear hb2w hrel hbk hoe hov hod hup hsz1 hb1 hb2 HB1 HR1 HX1
  obtain ⟨⟨x0, x1, x2, x3, x4, x5, x6, x7, x8, x9, x10, x11, x12⟩, -⟩ := msg_cells HQ2.out
  go_wp2_with fail
  clear x0 x1 x2 x3 x4 x5 x6 x7 x8 x9 x10 x11 x12
  go_loopw [19] (fun i wr => ∃ k : Nat, k ≤ m.entries.length ∧ i = .int .i64 k ∧ Hid (wr.heap[w.heap.size]? = some (.cells (msgC m (.slice Ae2 m.entries.length ce2) (.slice Av2 m.voters.length cv2) (.slice Ad2 m.data.length cd2)) 26 (0, 0))) ∧ Hid (wr.heap[w.heap.size + 1]? = some (.cells (msgC zeroM (.slice none 0 0) (.slice none 0 0) (.slice none 0 0)) 26 (0, 0))) ∧
    Hid (Ow (kEntF b2) 71 wr b2 (fun b => b2 ≤ b ∨ b < w.heap.size) (.slice Ae2 m.entries.length ce2) (flags m.entries k)) ∧ Hid (Ow kInt 3 wr w1.heap.size (fun b => w1.heap.size ≤ b ∧ b < b1) (.slice Av2 m.voters.length cv2) m.voters) ∧ Hid (Ow kByte 5 wr b1 (fun b => b1 ≤ b ∧ b < b2) (.slice Ad2 m.data.length cd2) m.data) ∧ Hid (Ext w wr ∧ w2.heap.size ≤ wr.heap.size)) (fun i _ => m.entries.length - (intOf i).toNat)
  case atStart => exact ⟨0, Nat.zero_le _, rfl, HQ2, HR2, HOE, HOV, HOD, Lib.hid ⟨HX2.out, Nat.le_refl _⟩⟩
  case round =>
    clear HQ2 HR2 HOE HOV HOD
    obtain ⟨k, hk, rfl, HQ, HR, HOE, HOV, HOD, HX⟩ := hrel
    by_cases hlt : k < m.entries.length
    · have hlen := HZE.out
      obtain ⟨ge, cap, hve, hgb, hgl, -, -⟩ := HOE.out.form (by rw [flags_len]; omega)
      rw [flags_len] at hve
      injection hve with h1 h2 h3
      subst h1
      subst h3
      have HGE := Lib.hid (show b2 ≤ ge from hgb)
      have HQC := Lib.hid (show wr.cell? ⟨w.heap.size, 10, none⟩ = some (.slice (some ⟨ge, 0, none⟩) m.entries.length ce2) from cell_blk HQ.out 10)
      have hqg : w.heap.size ≠ ge := by have := HB2.out; omega
      have HNE := Lib.hid hqg
      have hb2r : b2 ≤ wr.heap.size := by have := HX.out.2; rcases HB2W.out with h | h; omega; omega
      have hql := blk_lt HQ.out
      have hld : m.entries[k].data.length ≤ 65536 := HL.out.each _ (List.getElem_mem hlt)
      clear hgl hgb
      go_upto_region 5 with fail
      refine ow5 w.heap.size ge ce2 k b2 (· < w.heap.size) m.entries hlt HQC HGE.out hqg hql hb2r HOE hld hlen ?_
      intros
      rename_i wx hrel
      have hu := hrel.out.2
      have h12 := HB2.out
      have hge := HGE.out
      have hs1 := HS1.out
      have HQ' := Lib.hid (blk_upd HQ.out hu hqg)
      have HR' := Lib.hid (blk_upd HR.out hu (show ¬ (w.heap.size + 1 = ge) by omega))
      have HOE' := Lib.hid hrel.out.1
      have HOV' := Lib.hid (HOV.out.upd hu (fun b hb hb2 => by have hb2' : b = ge := hb2; omega))
      have HOD' := Lib.hid (HOD.out.upd hu (fun b hb hb2 => by have hb2' : b = ge := hb2; omega))
      have HX' := Lib.hid (show Ext w wx ∧ w2.heap.size ≤ wx.heap.size from ⟨hu.ext HX.out.1 (fun x hx => by have hx' : x = ge := hx; omega), Nat.le_trans HX.out.2 hu.le⟩)
      clear hrel hu hqg hb2r hql hld HQC HQ HR HOE HOV HOD HX
      go_wp2_with fail
      go_roundw
      case rel => exact ⟨k + 1, by omega, by go_num, HQ', HR', HOE', HOV', HOD', HX'⟩
      case measure => simp [intOf]; omega
    · obtain rfl : k = m.entries.length := by omega
      clear hlt
      have HO := Lib.hid HOE.out.ents_all
      obtain ⟨⟨x0, x1, x2, x3, x4, x5, x6, x7, x8, x9, x10, x11, x12⟩, -⟩ := msg_cells HQ.out
      obtain ⟨⟨z0, z1, z2, z3, z4, z5, z6, z7, z8, z9, z10, z11, z12⟩, ⟨y0, y1, y2, y3, y4, y5, y6, y7, y8, y9, y10, y11, y12⟩⟩ := msg_cells HR.out
      simp only [zeroM] at z0 z1 z2 z3 z4 z5 z6 z7 z8 z9
      have HSM := Lib.hid (setM_heap wr (w.heap.size + 1) m (.slice Ae2 m.entries.length ce2) (.slice Av2 m.voters.length cv2) (.slice Ad2 m.data.length cd2) HR.out)
      have HSU := Lib.hid (setM_upd wr (w.heap.size + 1) m (.slice Ae2 m.entries.length ce2) (.slice Av2 m.voters.length cv2) (.slice Ad2 m.data.length cd2))
      clear HOE HQ HR
      go_wp2_with fail
      (try simp only [Exit.inBlock, Exit.then])
      refine bodyPost_ret (results_cell_row rfl _ _ _ _ _ _ _ rfl HSM.out Try.underlying26 rfl (by kernel_rfl)) rfl ?_
      have h12 := HB2.out
      have hs1 := HS1.out
      have hbb : ∀ b, w.heap.size + 2 ≤ b → ¬ b = w.heap.size + 1 := fun b hb e => by omega
      refine ⟨_, rfl, ⟨b1, b2, _, _, _, by omega, by omega, rfl, HO.out.upd HSU.out (fun b hb => hbb b (by omega)), ((HOV.out.upd HSU.out (fun b hb => hbb b (by omega))).mono (fun b hb => ⟨by omega, hb.2⟩)).lower (by omega), HOD.out.upd HSU.out (fun b hb => hbb b (by omega)), HI.out⟩, HSU.out.ext HX.out.1 (fun x hx => by have hx' : x = w.heap.size + 1 := hx; omega)⟩
end Go.Proofs.Ytfflcnlgkbgbhaa
set_option linter.unusedVariables false
set_option linter.unusedSimpArgs false
namespace Go.Proofs.Ytfflcnlgkbgbhaa
open Go.RowKit

set_option maxRecDepth 1000000 in
set_option maxHeartbeats 16000000 in
theorem NetPuts_walk (w : World) (cs : Array Value) (m : MsgS) (hm : kMsg.K w (· < w.heap.size) m cs.toList) :
    Calls Try.prog 3 #[.agg cs] w fun e w' => e = .returned (.bool true) ∧ Ext w w' := by
  have HM := Lib.hid (MsgV.of_K hm)
  clear hm
  obtain ⟨Ae, ce, Av, cv, Ad, cd, e, -⟩ := HM.out.form
  injection e with e
  subst e
  dsimp only [msgC] at HM ⊢
  go_enter Try.func3, Try.ntmps3
  go_upto_region 1 with fail
  obtain ⟨w1, hw1⟩ : ∃ w1, w1 = w.alloc (.cells (msgC m (.slice Ae m.entries.length ce) (.slice Av m.voters.length cv) (.slice Ad m.data.length cd)) 26) := ⟨_, rfl⟩
  have HB1 := Lib.hid (show w1.heap[w.heap.size]? = some (.cells (msgC m (.slice Ae m.entries.length ce) (.slice Av m.voters.length cv) (.slice Ad m.data.length cd)) 26 (0, 0)) by rw [hw1]; exact heap_new w _ rfl _)
  have HE1 := Lib.hid (show Ext w w1 by rw [hw1]; exact (Ext.refl w).alloc _)
  unfold msgC at hw1
  rw [← hw1]
  obtain ⟨q, hq⟩ : ∃ q, q = w.heap.size := ⟨_, rfl⟩
  rw [← hq] at HB1 ⊢
  clear hw1 hq
  obtain ⟨⟨x0, x1, x2, x3, x4, x5, x6, x7, x8, x9, x10, x11, x12⟩, -⟩ := msg_cells HB1.out
  go_wp2_with fail
  obtain ⟨w2, hw2⟩ : ∃ w2, w2 = w1.alloc (.cells (msgC m (.slice Ae m.entries.length ce) (.slice Av m.voters.length cv) (.slice Ad m.data.length cd)) 26) := ⟨_, rfl⟩
  have hb2 : w2.heap[w1.heap.size]? = some (.cells (msgC m (.slice Ae m.entries.length ce) (.slice Av m.voters.length cv) (.slice Ad m.data.length cd)) 26 (0, 0)) := by rw [hw2]; exact heap_new w1 _ rfl _
  have HE2 := Lib.hid (show Ext w w2 by rw [hw2]; exact HE1.out.alloc _)
  have HB2 := Lib.hid (show w2.heap[q]? = some (.cells (msgC m (.slice Ae m.entries.length ce) (.slice Av m.voters.length cv) (.slice Ad m.data.length cd)) 26 (0, 0)) by rw [hw2]; exact blk_ext HB1.out ((Ext.refl w1).alloc _))
  unfold msgC at hw2
  rw [← hw2]
  clear hw2
  refine (weight_calls w2 (fun _ => True) _ [m] (Rs.one_msg hb2 trivial ((HM.out.ext HE2.out).mono (fun _ _ => trivial)))).mono ?_
  rintro e w3 ⟨⟨z, rfl, hz0, hz2, hzl⟩, n3, rfl⟩
  have HE3 := Lib.hid (HE2.out.drewN n3)
  have HB3 := Lib.hid (show (w2.drewN n3).heap[q]? = some (.cells (msgC m (.slice Ae m.entries.length ce) (.slice Av m.voters.length cv) (.slice Ad m.data.length cd)) 26 (0, 0)) from HB2.out)
  obtain ⟨w4, hw4⟩ : ∃ w4, w4 = w2.drewN n3 := ⟨_, rfl⟩
  rw [← hw4] at HE3 HB3 ⊢
  clear hb2 hw4 HE2 HB2 HE1 HB1 x0 x1 x2 x3 x4 x5 x6 x7 x8 x9 x10 x11 x12
  by_cases hbig : 65536 < z
  · go_wp2_with fail
    refine (awake_calls _).mono ?_
    rintro e w' ⟨rfl, hx⟩
    have HX := Lib.hid (HE3.out.trans hx)
    clear hx
    go_wp2_with fail
    go_ret
    exact ⟨rfl, HX.out⟩
  · have HLM := Lib.hid (show LightM m from (hzl (by omega)).2 m (by simp))
    obtain ⟨⟨x0, x1, x2, x3, x4, x5, x6, x7, x8, x9, x10, x11, x12⟩, -⟩ := msg_cells HB3.out
    clear hzl
    go_wp2_with fail
    refine (own_calls w4 _ _ m (HM.out.ext HE3.out) HLM.out).mono ?_
    rintro e w5 ⟨mv, rfl, hmo, hx⟩
    have HO5 := Lib.hid hmo.v.under
    have HE5 := Lib.hid (HE3.out.trans hx)
    have HB5 := Lib.hid (blk_ext HB3.out hx)
    obtain ⟨Be, de, Bv, dv, Bd, dd, rfl, -⟩ := hmo.v.form
    clear hx hmo HE3 HB3 x0 x1 x2 x3 x4 x5 x6 x7 x8 x9 x10 x11 x12
    dsimp only [msgC] at HO5 ⊢
    go_upto_region 4 with fail
    obtain ⟨w6, hw6⟩ : ∃ w6, w6 = w5.alloc (.cells (msgC m (.slice Be m.entries.length de) (.slice Bv m.voters.length dv) (.slice Bd m.data.length dd)) 26) := ⟨_, rfl⟩
    have HG6 := Lib.hid (show w6.heap[w5.heap.size]? = some (.cells (msgC m (.slice Be m.entries.length de) (.slice Bv m.voters.length dv) (.slice Bd m.data.length dd)) 26 (0, 0)) by rw [hw6]; exact heap_new w5 _ rfl _)
    have hx : Ext w5 w6 := by rw [hw6]; exact (Ext.refl w5).alloc _
    have HO6 := Lib.hid (HO5.out.ext hx)
    have HE6 := Lib.hid (HE5.out.trans hx)
    have HB6 := Lib.hid (blk_ext HB5.out hx)
    unfold msgC at hw6
    rw [← hw6]
    obtain ⟨r, hr⟩ : ∃ r, r = w5.heap.size := ⟨_, rfl⟩
    rw [← hr] at HG6 ⊢
    clear hw6 hx hr HO5 HE5 HB5
    obtain ⟨⟨x0, x1, x2, x3, x4, x5, x6, x7, x8, x9, x10, x11, x12⟩, -⟩ := msg_cells HG6.out
    go_wp2_with fail
    refine (Put_calls w6 _ _ m HO6.out).mono ?_
    rintro e w7 ⟨p, rfl, ho, hx⟩
    have HP7 := Lib.hid ho.rs.under
    have HO7 := Lib.hid (HO6.out.ext hx)
    have HE7 := Lib.hid (HE6.out.trans hx)
    have HB7 := Lib.hid (blk_ext HB6.out hx)
    have HG7 := Lib.hid (blk_ext HG6.out hx)
    obtain ⟨Ap, cp, ep, _⟩ := id ho.rs
    subst ep
    clear ho hx HO6 HE6 HB6 HG6 x0 x1 x2 x3 x4 x5 x6 x7 x8 x9 x10 x11 x12
    obtain ⟨⟨x0, x1, x2, x3, x4, x5, x6, x7, x8, x9, x10, x11, x12⟩, -⟩ := msg_cells HB7.out
    go_wp2_with fail
    refine (RPut_calls w7 _ _ m (HM.out.ext HE7.out)).mono ?_
    rintro e w8 ⟨p2, rfl, ho, hx⟩
    have HQ8 := Lib.hid ho.rs.under
    have HP8 := Lib.hid (HP7.out.ext hx)
    have HO8 := Lib.hid (HO7.out.ext hx)
    have HE8 := Lib.hid (HE7.out.trans hx)
    have hb8 := blk_ext HB7.out hx
    have hg8 := blk_ext HG7.out hx
    obtain ⟨Aq, cq, eq, _⟩ := id ho.rs
    subst eq
    clear ho hx HP7 HO7 HE7 HB7 HG7 x0 x1 x2 x3 x4 x5 x6 x7 x8 x9 x10 x11 x12
    obtain ⟨⟨x0, x1, x2, x3, x4, x5, x6, x7, x8, x9, x10, x11, x12⟩, -⟩ := msg_cells hb8
    obtain ⟨⟨z0, z1, z2, z3, z4, z5, z6, z7, z8, z9, z10, z11, z12⟩, -⟩ := msg_cells hg8
    clear hb8 hg8
    generalize (putM m).1 = pb at HP8 HQ8 ⊢
    generalize (putM m).2 = pe
    go_wp2_with fail
    refine (Equal_calls _ _ _ _ _ pb pb HP8.out HQ8.out).mono ?_
    rw [beq_self_eq_true]
    rintro e w9 ⟨rfl, rfl⟩
    have hee : ((pe : Int) == (pe : Int)) = true := beq_self_eq_true _
    go_wp2_with fail
    refine (same_calls _ _ _ _ _ m m HO8.out (HM.out.ext HE8.out)).mono ?_
    rw [decide_eq_true (rfl : m = m)]
    rintro e w10 ⟨rfl, hx⟩
    have HE10 := Lib.hid (HE8.out.trans hx)
    clear hx x0 x1 x2 x3 x4 x5 x6 x7 x8 x9 x10 x11 x12 z0 z1 z2 z3 z4 z5 z6 z7 z8 z9 z10 z11 z12
    go_wp2_with fail
    refine (awake_calls _).mono ?_
    rintro e w12 ⟨rfl, hx⟩
    have HE12 := Lib.hid (HE10.out.trans hx)
    clear hx
    go_wp2_with fail
    go_ret
    exact ⟨rfl, HE12.out⟩
end Go.Proofs.Ytfflcnlgkbgbhaa
