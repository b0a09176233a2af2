/-
  Texts of this claim, put together: MsgGet, Upd, Cut.
-/
import Derived.Test.YtfflcnlgkbgbhaaZ3
import Derived.Test.YtfflcnlgkbgbhaaZ1
import Derived.WalkSpells
set_option linter.unusedVariables false
set_option linter.unusedSimpArgs false
namespace Go.Proofs.Ytfflcnlgkbgbhaa
open Go.RowKit

def zeroM : MsgS := ⟨0, 0, 0, 0, 0, 0, 0, 0, false, false, [], [], []⟩
/-- Was a message read, and all of it? -/
def okP (r : MsgS × Nat × Nat × ScS) : Bool := decide (r.2.2.2.end_.e = 0) && decide (r.1.entries.length = r.2.1) && decide (r.1.voters.length = r.2.2.1)
def readP (p : List UInt8) : MsgS × Nat × Nat × ScS := rdMsg true 8 ⟨p, 0, 0⟩
def readR (p : List UInt8) : MsgS × Nat × Nat × ScS := rdMsg false 9 ⟨p, 0, 0⟩
def getM (b : List UInt8) : MsgS × Nat :=
  if (pick b).2.2 ≠ 0 then (zeroM, (pick b).2.2)
  else if (pick b).2.1 ≠ b.length then (zeroM, 3)
  else if (okP (readP (pick b).1) && chkM (readP (pick b).1).1) = true then ((readP (pick b).1).1, 0) else (zeroM, 122)
/-- Does the reference take it? -/
def okR (b : List UInt8) (r : MsgS × Nat × Nat × ScS) : Bool := decide (r.2.2.2.e = 0) && (decide ((putM r.1).2 = 0) && decide ((putM r.1).1 = b))
def getR (b : List UInt8) : MsgS × Nat :=
  if (pick b).2.2 ≠ 0 then (zeroM, (pick b).2.2)
  else if (pick b).2.1 < b.length then (zeroM, 3)
  else if okR b (readR (pick b).1) = true then ((readR (pick b).1).1, 0) else (zeroM, 122)

theorem chkM_enc_len {m : MsgS} (h : chkM m = true) : (encM m).length ≤ 50000 := by
  have hc := chkM_iff h
  have hh := headB_iff.1 hc.head
  have h7 : m.voters.length ≤ 7 := by
    by_cases hk : m.kind = 5
    · exact chk_le7 (hc.v5 hk)
    · rw [hc.v0 hk]; simp
  have hv0 : ∀ x ∈ m.voters, x ≤ 9223372036854775807 := by
    intro x hx
    by_cases hk : m.kind = 5
    · have := chk_mem (hc.v5 hk) hx; omega
    · rw [hc.v0 hk] at hx; cases hx
  have l1 := encNums_len (msgNums m) (by
    have := hc.kind
    intro n hn
    simp only [msgNums, List.mem_cons, List.not_mem_nil, or_false] at hn
    omega)
  have l2 := encNums_len m.voters hv0
  have l3 := encEnts_len m.entries (fun e he => by have := entsB_mem hc.ents e he; exact ⟨by omega, this.2.2.2.2⟩)
  have l4 := digs_len m.entries.length (by have := hc.len; omega)
  have l5 := digs_len m.voters.length (by omega)
  have l6 := digs_len m.data.length (by have := hc.dlen; omega)
  have l7 := digs_len m.yes.toNat (by cases m.yes <;> decide)
  have l8 := digs_len m.done.toNat (by cases m.done <;> decide)
  have hd := hc.dlen
  have h8 := hc.len
  have hn8 : (msgNums m).length = 8 := rfl
  simp only [encM, List.length_append]
  omega
theorem putM_yes {m : MsgS} (h : chkM m = true) : putM m = (rcd (encM m), 0) := by
  unfold putM record
  rw [if_pos h, if_neg (by have := chkM_enc_len h; omega)]
theorem putM_no {m : MsgS} (h : chkM m = false) : putM m = ([], 122) := by
  unfold putM
  rw [if_neg (by rw [h]; decide)]
theorem putM_zero {m : MsgS} : (putM m).2 = 0 ↔ chkM m = true := by
  cases h : chkM m
  · rw [putM_no h]; simp
  · rw [putM_yes h]; simp
theorem rcd_inj {p q : List UInt8} (hp : p.length ≤ 65536) (hq : q.length ≤ 65536) (h : rcd p = rcd q) : p = q := by
  have h1 := pick_rcd p [] hp
  have h2 := pick_rcd q [] hq
  rw [h, h2] at h1
  injection h1 with h1 _
  exact h1.symm
theorem st0 (p : List UInt8) : St ⟨p, 0, 0⟩ p := ⟨rfl, Nat.zero_le _, rfl⟩
theorem end_zero {s : ScS} (h : s.end_.e = 0) (hi : s.in_) : s.e = 0 ∧ s.rest = [] := by
  unfold ScS.end_ at h
  split at h
  · cases h
  · rename_i hn
    refine ⟨h, ?_⟩
    unfold ScS.in_ at hi
    show s.b.drop s.at_ = []
    rw [List.drop_eq_nil_iff]
    omega
theorem St.end_ {s : ScS} (h : St s []) : s.end_.e = 0 := by
  unfold ScS.end_
  rw [if_neg, h.e]
  have hr : s.b.drop s.at_ = [] := h.rest
  rw [List.drop_eq_nil_iff] at hr
  omega
/-- Bytes are taken just where they are a message's that may be. -/
theorem readP_iff (p : List UInt8) : (okP (readP p) && chkM (readP p).1) = true → p = encM (readP p).1 ∧ chkM (readP p).1 = true := by
  intro h
  unfold okP at h
  simp only [Bool.and_eq_true, decide_eq_true_eq] at h
  obtain ⟨⟨⟨h1, h2⟩, h3⟩, h4⟩ := h
  refine ⟨?_, h4⟩
  have hi : (readP p).2.2.2.in_ := by
    obtain ⟨a0, s1, a1, s2, a2, s3, a3, s4, a4, s5, a5, s6, a6, s7, a7, s8, y, sy, d, sd, c, sc, es, se, v, sv, vs, svs, t, st', q0, q1, q2, q3, q4, q5, q6, q7, q8, q9, q10, q11, q12, q13, q14, q⟩ := rdMsg_steps true 8 ⟨p, 0, 0⟩
    unfold readP
    rw [q]
    exact (textC' (numsC' (numC' (entsC' (numC' (flagC' (flagC' (numC' (numC' (numC' (numC' (numC' (numC' (numC' (numC' (Nat.zero_le _) q0).1 q1).1 q2).1 q3).1 q4).1 q5).1 q6).1 q7).1 q8).1 q9).1 q10).1 q11).1 q12).1 q13).1 q14).1
  obtain ⟨e0, r0⟩ := end_zero h1 hi
  have := (rdMsgC (s := ⟨p, 0, 0⟩) (Nat.zero_le _) e0 h2 h3).1
  have hr : (readP p).2.2.2.rest = [] := r0
  unfold readP at hr ⊢
  rw [hr, List.append_nil] at this
  exact this
theorem readP_put {m : MsgS} (h : chkM m = true) : ∃ s', readP (encM m) = (m, m.entries.length, m.voters.length, s') ∧ St s' [] := rdMsgB true (by omega) h (by rw [List.append_nil]; exact st0 _)
theorem readR_put {m : MsgS} (h : chkM m = true) : ∃ s', readR (encM m) = (m, m.entries.length, m.voters.length, s') ∧ St s' [] := rdMsgB false (by omega) h (by rw [List.append_nil]; exact st0 _)
theorem getR_eq (b : List UInt8) : getR b = getM b := by
  unfold getR getM
  by_cases h0 : (pick b).2.2 ≠ 0
  · rw [if_pos h0, if_pos h0]
  · rw [if_neg h0, if_neg h0]
    have hok := pick_ok b (by omega)
    by_cases h1 : (pick b).2.1 < b.length
    · rw [if_pos h1, if_pos (show (pick b).2.1 ≠ b.length by omega)]
    · have hle : (pick b).2.1 = b.length := by omega
      rw [if_neg h1, if_neg (show ¬ (pick b).2.1 ≠ b.length by omega)]
      have hb : rcd (pick b).1 = b := by rw [hok.2.2.2.2, hle, List.take_length]
      have hp := hok.2.2.2.1
      generalize (pick b).1 = p at hb hp
      by_cases hA : (okP (readP p) && chkM (readP p).1) = true
      · obtain ⟨hpe, hc⟩ := readP_iff p hA
        obtain ⟨s', hq, hs⟩ := readR_put hc
        rw [← hpe] at hq
        have hR : okR b (readR p) = true := by
          unfold okR
          rw [hq]
          simp only [Bool.and_eq_true, decide_eq_true_eq]
          exact ⟨hs.e, putM_zero.2 hc, by rw [putM_yes hc, ← hpe, hb]⟩
        rw [if_pos hA, if_pos hR, hq]
      · have hR : okR b (readR p) ≠ true := by
          intro h
          unfold okR at h
          simp only [Bool.and_eq_true, decide_eq_true_eq] at h
          obtain ⟨_, h2, h3⟩ := h
          have hc := putM_zero.1 h2
          rw [putM_yes hc] at h3
          have hpe := rcd_inj (by have := chkM_enc_len hc; omega) hp (h3.trans hb.symm)
          obtain ⟨s', hq, hs⟩ := readP_put hc
          rw [hpe] at hq
          apply hA
          rw [hq]
          unfold okP
          simp only [hs.end_, decide_true, Bool.true_and]
          exact hc
        rw [if_neg hA, if_neg hR]
/-- What was put is got. -/
theorem get_put {m : MsgS} (h : chkM m = true) : getM (rcd (encM m)) = (m, 0) := by
  have hl := chkM_enc_len h
  have hp := pick_rcd (encM m) [] (by omega)
  rw [List.append_nil] at hp
  obtain ⟨s', hq, hs⟩ := readP_put h
  unfold getM
  rw [hp]
  simp only [ne_eq, not_true, if_false, hq]
  rw [if_pos]
  unfold okP
  simp only [hs.end_, decide_true, Bool.true_and]
  exact h
/-- What is got is put again as it was. -/
theorem put_get {b : List UInt8} (h : (getM b).2 = 0) : chkM (getM b).1 = true ∧ rcd (encM (getM b).1) = b := by
  unfold getM at h ⊢
  split at h
  · rename_i h0; exact absurd h h0
  · rename_i h0
    split at h
    · cases h
    · rename_i h1
      split at h
      · rename_i h2
        rw [if_neg h0, if_neg h1, if_pos h2]
        obtain ⟨hp, hc⟩ := readP_iff _ h2
        have hok := pick_ok b (by omega)
        refine ⟨hc, ?_⟩
        rw [← hp, hok.2.2.2.2]
        have : (pick b).2.1 = b.length := by omega
        rw [this, List.take_length]
      · cases h
theorem get_bad {b : List UInt8} (h : (getM b).2 ≠ 0) : (getM b).1 = zeroM := by
  unfold getM at h ⊢
  split
  · rfl
  · rename_i h0
    split
    · rfl
    · rename_i h1
      split
      · rename_i h2; rw [if_neg h0, if_neg h1, if_pos h2] at h; exact absurd rfl h
      · rfl
theorem pick_bad' (b : List UInt8) : (pick b).2.2 ≤ 11 := by
  have h := (rd_bd (b.drop 1)).2.2.2
  unfold pick
  split
  · show 2 ≤ 11; omega
  split
  · show 10 ≤ 11; omega
  split
  · show (rd (b.drop 1)).2.2 ≤ 11; omega
  split
  · show 4 ≤ 11; omega
  split
  · show 2 ≤ 11; omega
  split
  · show 11 ≤ 11; omega
  · show 0 ≤ 11; omega
theorem get_le (b : List UInt8) : (getM b).2 ≤ 122 := by
  unfold getM
  have := (pick_bad' b)
  split
  · show (pick b).2.2 ≤ 122; omega
  · split
    · show 3 ≤ 122; omega
    · split
      · show 0 ≤ 122; omega
      · show 122 ≤ 122; omega
end Go.Proofs.Ytfflcnlgkbgbhaa
set_option linter.unusedVariables false
set_option linter.unusedSimpArgs false
namespace Go.Proofs.Ytfflcnlgkbgbhaa
open Go.RowKit

/-- Blocks that were there and are none of S have not turned. -/
structure Upd (S : Nat → Prop) (w w' : World) : Prop where
  os : w'.os = w.os
  tape : w'.tape = w.tape
  output : w'.output = w.output
  size : w.heap.size ≤ w'.heap.size
  block : ∀ k, k < w.heap.size → ¬ S k → w'.heap[k]? = w.heap[k]?
section
variable {S T : Nat → Prop} {a b c w w' : World}
theorem Upd.refl (S : Nat → Prop) (w : World) : Upd S w w := ⟨rfl, rfl, rfl, Nat.le_refl _, fun _ _ _ => rfl⟩
theorem Upd.trans (h : Upd S a b) (k : Upd S b c) : Upd S a c :=
  ⟨k.os.trans h.os, k.tape.trans h.tape, k.output.trans h.output, Nat.le_trans h.size k.size, fun i hi hn => (k.block i (Nat.lt_of_lt_of_le hi h.size) hn).trans (h.block i hi hn)⟩
theorem Upd.mono (h : Upd S a b) (hS : ∀ k, S k → T k) : Upd T a b := ⟨h.os, h.tape, h.output, h.size, fun k hk hn => h.block k hk fun hs => hn (hS k hs)⟩
theorem Ext.upd (h : Ext a b) (S : Nat → Prop) : Upd S a b := ⟨h.os, h.tape, h.output, h.size, fun k hk _ => h.block k hk⟩
theorem Upd.ext (h : Upd S b c) (he : Ext a b) (hS : ∀ k, S k → a.heap.size ≤ k) : Ext a c :=
  Below.trans he ⟨h.os, h.tape, h.output, h.size, fun k hk => h.block k (Nat.lt_of_lt_of_le hk he.size) fun hs => by have := hS k hs; omega⟩
theorem Upd.set (h : Upd S a b) {g i : Nat} (hg : S g ∨ a.heap.size ≤ g) (u : Value) : Upd S a (b.setCell ⟨g, i, none⟩ u) :=
  ⟨h.os, h.tape, h.output, by simpa [World.setCell] using h.size, fun k hk hn => (Below.heap_setCell b ⟨g, i, none⟩ u k (by
    intro e
    have e' : k = g := e
    rcases hg with hg | hg
    · exact hn (e' ▸ hg)
    · omega)).trans (h.block k hk hn)⟩
theorem Upd.drew (h : Upd S a b) : Upd S a b.drew := ⟨h.os, h.tape, h.output, h.size, h.block⟩
theorem Upd.drewN (h : Upd S a b) (n : Nat) : Upd S a (b.drewN n) := ⟨h.os, h.tape, h.output, h.size, h.block⟩
theorem Upd.alloc (h : Upd S a b) (o : Obj) : Upd S a (b.alloc o) :=
  ⟨h.os, h.tape, h.output, Nat.le_trans h.size (by simp), fun k hk hn => (Below.heap_alloc b o k (Nat.lt_of_lt_of_le hk h.size)).trans (h.block k hk hn)⟩
theorem Upd.grown (h : Upd S a b) {row : Option Nat} (hg : b.grownBy c row) (hr : ∀ k, row = some k → S k ∨ a.heap.size ≤ k) : Upd S a c :=
  ⟨hg.os.trans h.os, hg.tape.trans h.tape, hg.output.trans h.output, Nat.le_trans h.size hg.size, fun k hk hn =>
    (hg.block k (Nat.lt_of_lt_of_le hk h.size) fun e => (hr k e.symm).elim hn fun h2 => by omega).trans (h.block k hk hn)⟩
theorem Upd.le (h : Upd S a b) : a.heap.size ≤ b.heap.size := h.size
variable {α : Type} {d : Kd α} {v : Value} {xs : List α} {base : Nat} {e : TypeId}
theorem Rs.upd (h : Rs d w T v xs) (hu : Upd S w w') (hd : ∀ b, T b → ¬ S b) : Rs d w' T v xs := h.keep fun b hb hl => hu.block b hl (hd b hb)
theorem Ow.upd (h : Ow d e w base T v xs) (hu : Upd S w w') (hd : ∀ b, T b → ¬ S b) : Ow d e w' base T v xs := h.keep fun b hb hl => hu.block b hl (hd b hb)
theorem blk_upd {g : Nat} {o : Obj} (h : w.heap[g]? = some o) (hu : Upd S w w') (hg : ¬ S g) : w'.heap[g]? = some o :=
  (hu.block g (Array.getElem?_eq_some_iff.1 h).1 hg).trans h
theorem blk_ext {g : Nat} {o : Obj} (h : w.heap[g]? = some o) (hu : Ext w w') : w'.heap[g]? = some o :=
  (hu.block g (Array.getElem?_eq_some_iff.1 h).1).trans h
end
end Go.Proofs.Ytfflcnlgkbgbhaa
set_option linter.unusedVariables false
set_option linter.unusedSimpArgs false
namespace Go.Proofs.Ytfflcnlgkbgbhaa
open Go.RowKit

/-- The model's words for what is left of a slice. -/
def restA (A : Option Addr) (c k : Nat) : Option Addr := if c = k then A else Option.map (fun x => x.add k) A
/-- A part of a slice. -/
def partV (A : Option Addr) (c l h : Nat) : Value := .slice (restA A c l) (h - l) (c - l)
theorem partV_eq (A : Option Addr) (c l h : Nat) : partV A c l h = .slice (restA A c l) (h - l) (c - l) := rfl

section
variable {P : Program} {t e : TypeId} {z : Value} {bytes : Nat}
theorem slice_from (hE : ElemT P t e z 1 bytes) (A : Option Addr) (len cap : Nat) (k : IntKind) (l : Int) (L : Nat) (hl : l = (L : Int)) (h : L ≤ len) (W : World) :
    (Instr.sliceAt t (.slice A len cap) (some (.int k l)) none none).run P W = .ok (partV A cap L len) W := by
  obtain ⟨i, hi, hz0, hz1, hz2⟩ := info_parts hE.info
  have ht : P.underlying t = some (.slice (P.elem t)) := by rw [hE.under]; simp [Program.elem, hE.under]
  have he : P.elem t = e := by simp [Program.elem, hE.under]
  subst hl
  rw [run_sliceAt_slice _ _ _ _ _ _ ht, run_slice_l _ _ _ _ _ ht _ _ (by omega) (by omega), he]
  simp [sizeOf, typeInfo, hi, hz1, sliced, partV, restA]
theorem slice_to (hE : ElemT P t e z 1 bytes) (A : Option Addr) (len cap : Nat) (k : IntKind) (h : Int) (H : Nat) (hh : h = (H : Int)) (hc : H ≤ cap) (W : World) :
    (Instr.sliceAt t (.slice A len cap) none (some (.int k h)) none).run P W = .ok (partV A cap 0 H) W := by
  obtain ⟨i, hi, hz0, hz1, hz2⟩ := info_parts hE.info
  have ht : P.underlying t = some (.slice (P.elem t)) := by rw [hE.under]; simp [Program.elem, hE.under]
  have he : P.elem t = e := by simp [Program.elem, hE.under]
  subst hh
  rw [run_sliceAt_slice _ _ _ _ _ _ ht, run_slice_h _ _ _ _ _ ht _ _ (by omega) (by omega), he]
  simp [sizeOf, typeInfo, hi, hz1, sliced, partV, restA]
theorem slice_of (hE : ElemT P t e z 1 bytes) (A : Option Addr) (len cap : Nat) (k k' : IntKind) (l h : Int) (L H : Nat) (hl : l = (L : Int)) (hh : h = (H : Int)) (hlh : L ≤ H) (hc : H ≤ cap) (W : World) :
    (Instr.sliceAt t (.slice A len cap) (some (.int k l)) (some (.int k' h)) none).run P W = .ok (partV A cap L H) W := by
  obtain ⟨i, hi, hz0, hz1, hz2⟩ := info_parts hE.info
  have ht : P.underlying t = some (.slice (P.elem t)) := by rw [hE.under]; simp [Program.elem, hE.under]
  have he : P.elem t = e := by simp [Program.elem, hE.under]
  subst hl; subst hh
  rw [run_sliceAt_slice _ _ _ _ _ _ ht, run_slice_lh _ _ _ _ _ ht _ _ _ _ (by omega) (by omega) (by omega), he]
  simp [sizeOf, typeInfo, hi, hz1, sliced, partV, restA]
end

theorem Rs.part {α : Type} {d : Kd α} {w : World} {S : Nat → Prop} {A : Option Addr} {m c l h : Nat} {xs : List α} (hr : Rs d w S (.slice A m c) xs) (hd : d.sz = 1) (hl : l ≤ h) (hh : h ≤ xs.length) :
    Rs d w S (partV A c l h) ((xs.drop l).take (h - l)) := by
  obtain ⟨A', c', he, hlen, hc, hz, hrow⟩ := hr
  injection he with e1 e2 e3
  subst e1; subst e3
  have e : ((xs.drop l).take (h - l)).length = h - l := by rw [List.length_take, List.length_drop]; omega
  refine ⟨_, c - l, by rw [e]; rfl, by rw [e]; omega, by omega, by rw [e]; omega, ?_⟩
  unfold restA
  split
  · exact Row.empty (by rw [e]; omega)
  · have := (hrow.drop l).take (h - l)
    rw [hd, Nat.mul_one] at this
    exact this
theorem Rs.from_ {α : Type} {d : Kd α} {w : World} {S : Nat → Prop} {A : Option Addr} {m c l : Nat} {xs : List α} (hr : Rs d w S (.slice A m c) xs) (hd : d.sz = 1) (hl : l ≤ xs.length) :
    Rs d w S (partV A c l xs.length) (xs.drop l) := by
  have := hr.part hd hl (Nat.le_refl _)
  rwa [List.take_of_length_le (by rw [List.length_drop]; omega)] at this
theorem Rs.to_ {α : Type} {d : Kd α} {w : World} {S : Nat → Prop} {A : Option Addr} {m c h : Nat} {xs : List α} (hr : Rs d w S (.slice A m c) xs) (hd : d.sz = 1) (hh : h ≤ xs.length) :
    Rs d w S (partV A c 0 h) (xs.take h) := by
  have := hr.part hd (Nat.zero_le h) hh
  simpa using this
/-- The same slice, its form laid open. -/
theorem Rs.shape {α : Type} {d : Kd α} {w : World} {S : Nat → Prop} {A : Option Addr} {m c : Nat} {xs : List α} (hr : Rs d w S (.slice A m c) xs) : m = xs.length ∧ xs.length ≤ c ∧ c ≤ 9223372036854775807 ∧ xs.length ≤ 140737488355328 ∧ Row d w S A xs := by
  obtain ⟨A', c', he, hlen, hc, hz, hrow⟩ := hr
  injection he with e1 e2 e3
  subst e1; subst e3
  exact ⟨e2, hlen, hc, hz, hrow⟩
end Go.Proofs.Ytfflcnlgkbgbhaa
