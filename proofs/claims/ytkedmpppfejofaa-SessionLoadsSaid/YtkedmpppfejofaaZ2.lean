/-
  Texts of this claim, put together: Upd, SesKit, SesMap, SesDelL, RegF, CodeAt, SesNumP, Cut.
-/
import Derived.Test.YtkedmpppfejofaaZ1
import Derived.Maps.OwnSet
import Derived.Lib.Hide
import Derived.Deep.RegionHeld3
import Derived.RegionTactic
import Derived.WalkSpells
set_option linter.unusedVariables false
set_option linter.unusedSimpArgs false
namespace Go.Proofs.Ytkedmpppfejofaa
open Go.RowKit

/-- Blocks that were there and are none of S have not turned. -/
structure Upd (S : Nat → Prop) (w w' : World) : Prop where
  os : w'.os = w.os
  tape : w'.tape = w.tape
  output : w'.output = w.output
  size : w.heap.size ≤ w'.heap.size
  block : ∀ k, k < w.heap.size → ¬ S k → w'.heap[k]? = w.heap[k]?
section
variable {S T : Nat → Prop} {a b c w w' : World}
theorem Upd.refl (S : Nat → Prop) (w : World) : Upd S w w := ⟨rfl, rfl, rfl, Nat.le_refl _, fun _ _ _ => rfl⟩
theorem Upd.trans (h : Upd S a b) (k : Upd S b c) : Upd S a c :=
  ⟨k.os.trans h.os, k.tape.trans h.tape, k.output.trans h.output, Nat.le_trans h.size k.size, fun i hi hn => (k.block i (Nat.lt_of_lt_of_le hi h.size) hn).trans (h.block i hi hn)⟩
theorem Upd.mono (h : Upd S a b) (hS : ∀ k, S k → T k) : Upd T a b := ⟨h.os, h.tape, h.output, h.size, fun k hk hn => h.block k hk fun hs => hn (hS k hs)⟩
theorem Ext.upd (h : Ext a b) (S : Nat → Prop) : Upd S a b := ⟨h.os, h.tape, h.output, h.size, fun k hk _ => h.block k hk⟩
theorem Upd.ext (h : Upd S b c) (he : Ext a b) (hS : ∀ k, S k → a.heap.size ≤ k) : Ext a c :=
  Below.trans he ⟨h.os, h.tape, h.output, h.size, fun k hk => h.block k (Nat.lt_of_lt_of_le hk he.size) fun hs => by have := hS k hs; omega⟩
theorem Upd.set (h : Upd S a b) {g i : Nat} (hg : S g ∨ a.heap.size ≤ g) (u : Value) : Upd S a (b.setCell ⟨g, i, none⟩ u) :=
  ⟨h.os, h.tape, h.output, by simpa [World.setCell] using h.size, fun k hk hn => (Below.heap_setCell b ⟨g, i, none⟩ u k (by
    intro e
    have e' : k = g := e
    rcases hg with hg | hg
    · exact hn (e' ▸ hg)
    · omega)).trans (h.block k hk hn)⟩
theorem Upd.drew (h : Upd S a b) : Upd S a b.drew := ⟨h.os, h.tape, h.output, h.size, h.block⟩
theorem Upd.drewN (h : Upd S a b) (n : Nat) : Upd S a (b.drewN n) := ⟨h.os, h.tape, h.output, h.size, h.block⟩
theorem Upd.alloc (h : Upd S a b) (o : Obj) : Upd S a (b.alloc o) :=
  ⟨h.os, h.tape, h.output, Nat.le_trans h.size (by simp), fun k hk hn => (Below.heap_alloc b o k (Nat.lt_of_lt_of_le hk h.size)).trans (h.block k hk hn)⟩
theorem Upd.grown (h : Upd S a b) {row : Option Nat} (hg : b.grownBy c row) (hr : ∀ k, row = some k → S k ∨ a.heap.size ≤ k) : Upd S a c :=
  ⟨hg.os.trans h.os, hg.tape.trans h.tape, hg.output.trans h.output, Nat.le_trans h.size hg.size, fun k hk hn =>
    (hg.block k (Nat.lt_of_lt_of_le hk h.size) fun e => (hr k e.symm).elim hn fun h2 => by omega).trans (h.block k hk hn)⟩
theorem Upd.le (h : Upd S a b) : a.heap.size ≤ b.heap.size := h.size
variable {α : Type} {d : Kd α} {v : Value} {xs : List α} {base : Nat} {e : TypeId}
theorem Rs.upd (h : Rs d w T v xs) (hu : Upd S w w') (hd : ∀ b, T b → ¬ S b) : Rs d w' T v xs := h.keep fun b hb hl => hu.block b hl (hd b hb)
theorem Ow.upd (h : Ow d e w base T v xs) (hu : Upd S w w') (hd : ∀ b, T b → ¬ S b) : Ow d e w' base T v xs := h.keep fun b hb hl => hu.block b hl (hd b hb)
theorem blk_upd {g : Nat} {o : Obj} (h : w.heap[g]? = some o) (hu : Upd S w w') (hg : ¬ S g) : w'.heap[g]? = some o :=
  (hu.block g (Array.getElem?_eq_some_iff.1 h).1 hg).trans h
theorem blk_ext {g : Nat} {o : Obj} (h : w.heap[g]? = some o) (hu : Ext w w') : w'.heap[g]? = some o :=
  (hu.block g (Array.getElem?_eq_some_iff.1 h).1).trans h
end
end Go.Proofs.Ytkedmpppfejofaa
set_option linter.unusedVariables false
set_option linter.unusedSimpArgs false
namespace Go.Proofs.Ytkedmpppfejofaa
open Go.RowKit

structure ReplyS where
  err : Int
  session : Int
  gone : Int
  added : Int
  same : Int
  other : Int
  cycle : Int
  full : Int
deriving DecidableEq, Inhabited
structure SeatS where
  session : Int
  seq : Int
  at_ : Int
  r : ReplyS
deriving DecidableEq, Inhabited
structure SDoS where
  op : Int
  session : Int
  seq : Int
  at_ : Int
  r : ReplyS

/-- The same kind of value by another name. -/
def Kd.named {α β : Type} (f : β → α) (d : Kd α) : Kd β where
  sz := d.sz
  K := fun w S x cs => d.K w S (f x) cs
  len := d.len
  one := d.one
  mono := d.mono
  move := d.move
  bound := d.bound
theorem opens_named {P : Program} {t : TypeId} {α β : Type} {d : Kd α} (f : β → α) (g : α → β) (hg : ∀ a, f (g a) = a) (h : Opens P t d) : Opens P t (Kd.named f d) :=
  ⟨h.1, fun H enc w base spare held fuel cs x hx hw => by
    obtain ⟨a, ha⟩ := h.2 H enc w base spare held fuel cs x hx hw
    exact ⟨g a, by show d.K w _ (f (g a)) cs; rw [hg]; exact ha⟩⟩
def kCounts : Kd (Int × Int × Int × Int × Int × Unit) := Kd.pair kInt (Kd.pair kInt (Kd.pair kInt (Kd.pair kInt (Kd.pair kInt Kd.unit))))
def kReply : Kd ReplyS := Kd.named (fun r => (r.err, r.session, r.gone, (r.added, r.same, r.other, r.cycle, r.full, ()), ())) (Kd.pair kInt (Kd.pair kInt (Kd.pair kInt (Kd.pair kCounts Kd.unit))))
def kSeat : Kd SeatS := Kd.named (fun s => (s.session, s.seq, s.at_, s.r, ())) (Kd.pair kInt (Kd.pair kInt (Kd.pair kInt (Kd.pair kReply Kd.unit))))
def kSDo : Kd SDoS := Kd.named (fun s => (s.op, s.session, s.seq, s.at_, s.r, ())) (Kd.pair kInt (Kd.pair kInt (Kd.pair kInt (Kd.pair kInt (Kd.pair kReply Kd.unit)))))
theorem oErrno : Opens Try.prog 22 kInt := opens_int Try.underlying22 (by kernel_rfl)
theorem oCounts : Opens Try.prog 24 kCounts := opens_struct Try.underlying24 (by kernel_rfl) (opensF_cons rfl oInt (opensF_cons rfl oInt (opensF_cons rfl oInt (opensF_cons rfl oInt (opensF_cons rfl oInt opensF_nil)))))
theorem oReply : Opens Try.prog 26 kReply := opens_named _ (fun (a, b, c, (d, e, f, g, h, _), _) => ⟨a, b, c, d, e, f, g, h⟩) (fun _ => rfl)
  (opens_struct Try.underlying26 (by kernel_rfl) (opensF_cons rfl oErrno (opensF_cons rfl oInt (opensF_cons rfl oInt (opensF_cons rfl oCounts opensF_nil)))))
theorem oSDo : Opens Try.prog 32 kSDo := opens_named _ (fun (a, b, c, d, e, _) => ⟨a, b, c, d, e⟩) (fun _ => rfl)
  (opens_struct Try.underlying32 (by kernel_rfl) (opensF_cons rfl oInt (opensF_cons rfl oInt (opensF_cons rfl oInt (opensF_cons rfl oInt (opensF_cons rfl oReply opensF_nil))))))

structure ReplyI (r : ReplyS) : Prop where
  err : I64 r.err
  session : I64 r.session
  gone : I64 r.gone
  added : I64 r.added
  same : I64 r.same
  other : I64 r.other
  cycle : I64 r.cycle
  full : I64 r.full
/-- A reply's numbers, in order. -/
def ReplyS.nums (r : ReplyS) : List Int := [r.err, r.session, r.gone, r.added, r.same, r.other, r.cycle, r.full]
def SeatS.nums (s : SeatS) : List Int := s.session :: s.seq :: s.at_ :: s.r.nums
def replyC (r : ReplyS) : Array Value := #[.int .i64 r.err, .int .i64 r.session, .int .i64 r.gone, .int .i64 r.added, .int .i64 r.same, .int .i64 r.other, .int .i64 r.cycle, .int .i64 r.full]
def seatC (s : SeatS) : Array Value := #[.int .i64 s.session, .int .i64 s.seq, .int .i64 s.at_, .int .i64 s.r.err, .int .i64 s.r.session, .int .i64 s.r.gone, .int .i64 s.r.added, .int .i64 s.r.same, .int .i64 s.r.other, .int .i64 s.r.cycle, .int .i64 s.r.full]
def sdoC (s : SDoS) : Array Value := #[.int .i64 s.op, .int .i64 s.session, .int .i64 s.seq, .int .i64 s.at_, .int .i64 s.r.err, .int .i64 s.r.session, .int .i64 s.r.gone, .int .i64 s.r.added, .int .i64 s.r.same, .int .i64 s.r.other, .int .i64 s.r.cycle, .int .i64 s.r.full]
section
variable {w : World} {S : Nat → Prop}
theorem kReply_iff {r : ReplyS} {cs : List Value} : kReply.K w S r cs ↔ cs = (replyC r).toList ∧ ReplyI r := by
  constructor
  · rintro ⟨_, _, rfl, ⟨rfl, h0⟩, _, _, rfl, ⟨rfl, h1⟩, _, _, rfl, ⟨rfl, h2⟩, _, _, rfl, ⟨_, _, rfl, ⟨rfl, h3⟩, _, _, rfl, ⟨rfl, h4⟩, _, _, rfl, ⟨rfl, h5⟩, _, _, rfl, ⟨rfl, h6⟩, _, _, rfl, ⟨rfl, h7⟩, rfl⟩, rfl⟩
    exact ⟨rfl, h0, h1, h2, h3, h4, h5, h6, h7⟩
  · rintro ⟨rfl, h0, h1, h2, h3, h4, h5, h6, h7⟩
    exact ⟨_, _, rfl, ⟨rfl, h0⟩, _, _, rfl, ⟨rfl, h1⟩, _, _, rfl, ⟨rfl, h2⟩, _, _, rfl, ⟨_, _, rfl, ⟨rfl, h3⟩, _, _, rfl, ⟨rfl, h4⟩, _, _, rfl, ⟨rfl, h5⟩, _, _, rfl, ⟨rfl, h6⟩, _, _, rfl, ⟨rfl, h7⟩, rfl⟩, rfl⟩
theorem kSDo_iff {s : SDoS} {cs : List Value} : kSDo.K w S s cs ↔ cs = (sdoC s).toList ∧ I64 s.op ∧ I64 s.session ∧ I64 s.seq ∧ I64 s.at_ ∧ ReplyI s.r := by
  constructor
  · rintro ⟨_, _, rfl, ⟨rfl, h0⟩, _, _, rfl, ⟨rfl, h1⟩, _, _, rfl, ⟨rfl, h2⟩, _, _, rfl, ⟨rfl, h3⟩, _, _, rfl, h4, rfl⟩
    obtain ⟨e, h5⟩ := kReply_iff.1 h4
    rw [e]
    exact ⟨rfl, h0, h1, h2, h3, h5⟩
  · rintro ⟨rfl, h0, h1, h2, h3, h5⟩
    exact ⟨_, _, rfl, ⟨rfl, h0⟩, _, _, rfl, ⟨rfl, h1⟩, _, _, rfl, ⟨rfl, h2⟩, _, _, rfl, ⟨rfl, h3⟩, _, _, rfl, kReply_iff.2 ⟨rfl, h5⟩, rfl⟩
end
end Go.Proofs.Ytkedmpppfejofaa
set_option linter.unusedVariables false
set_option linter.unusedSimpArgs false
namespace Go.Proofs.Ytkedmpppfejofaa
open Go.RowKit

/-! ### plain: rising seats -/
def zeroR : ReplyS := ⟨0, 0, 0, 0, 0, 0, 0, 0⟩
def zeroS : SeatS := ⟨0, 0, 0, zeroR⟩
def seatD (s : SeatS) : DataW Unit := .agg (s.nums.map fun n => .lit (.int .i64 n))
def seatP (s : SeatS) : Lit × DataW Unit := (.int .i64 s.session, seatD s)
def encL (L : List SeatS) : DataW Unit := .map (L.map seatP)
def findS (L : List SeatS) (n : Int) : Option SeatS := L.find? fun s => decide (s.session = n)
def insS (x : SeatS) : List SeatS → List SeatS
  | [] => [x]
  | y :: l => if x.session < y.session then x :: y :: l else y :: insS x l
def putS (L : List SeatS) (x : SeatS) : List SeatS := insS x (L.filter fun s => decide (s.session ≠ x.session))
theorem same_i (a b : Int) : (Lit.int .i64 a).sameKey (.int .i64 b) = decide (a = b) := by simp [Lit.sameKey]
theorem has_encL (L : List SeatS) (n : Int) : Maps.has (encL L) (.int .i64 n) = (findS L n).isSome := by
  unfold encL findS
  rw [Maps.has_eq, List.any_map]
  induction L with
  | nil => rfl
  | cons s l ih =>
    rw [List.any_cons, List.find?_cons, ih]
    by_cases h : s.session = n
    · simp [seatP, same_i, h]
    · simp [seatP, same_i, h]
theorem atKey_encL (L : List SeatS) (n : Int) (z : SeatS) : (encL L).atKey (.int .i64 n) (seatD z) = seatD ((findS L n).getD z) := by
  unfold encL findS DataW.atKey
  simp only
  induction L with
  | nil => rfl
  | cons s l ih =>
    rw [List.map_cons, List.find?_cons, List.find?_cons]
    simp only [seatP, same_i]
    by_cases h : s.session = n
    · simp [h]
    · simp only [h, decide_false]
      exact ih
theorem size_encL (L : List SeatS) : Maps.size (encL L) = L.length := by simp [encL, Maps.size_eq]
theorem insert_encL (x : SeatS) : ∀ L : List SeatS, DataW.insert (seatP x) (L.map seatP) = (insS x L).map seatP
  | [] => rfl
  | y :: l => by
    have ih := insert_encL x l
    unfold insS
    rw [List.map_cons]
    simp only [DataW.insert]
    by_cases h : x.session < y.session
    · rw [if_pos h, if_pos (by simp [seatP, Lit.before, h])]
      rfl
    · rw [if_neg h, if_neg (by simp [seatP, Lit.before]; omega), ih]
      rfl
theorem put_encL (L : List SeatS) (x : SeatS) : (encL L).put (.int .i64 x.session) (seatD x) = encL (putS L x) := by
  unfold encL putS
  rw [DataW.put_eq]
  unfold ChangeMaps.putKey
  rw [← insert_encL]
  congr 2
  rw [List.filter_map]
  congr 1
  apply List.filter_congr
  intro s _
  simp [ChangeMaps.notKey, seatP, same_i]
theorem insS_len (x : SeatS) : ∀ L : List SeatS, (insS x L).length = L.length + 1
  | [] => rfl
  | y :: l => by
    unfold insS
    split
    · rfl
    · rw [List.length_cons, insS_len x l, List.length_cons]

/-! ### in memory -/
def seatR (v : Value) : Option (DataW Unit × List MemPlace) :=
  match v with
  | .agg cs => match cs.toList with
    | [.int .i64 a, .int .i64 b, .int .i64 c, .int .i64 d, .int .i64 e, .int .i64 f, .int .i64 g, .int .i64 h, .int .i64 i, .int .i64 j, .int .i64 k] => some (seatD ⟨a, b, c, ⟨d, e, f, g, h, i, j, k⟩⟩, [])
    | _ => none
  | _ => none
theorem seatR_mk (s : SeatS) : seatR (.agg (seatC s)) = some (seatD s, []) := rfl
theorem seatR_inv {v : Value} {z : DataW Unit × List MemPlace} (h : seatR v = some z) : ∃ s, v = .agg (seatC s) ∧ z = (seatD s, []) := by
  unfold seatR at h
  split at h
  · rename_i cs0
    split at h
    · rename_i cs a b c d e f g hh i j k hl
      injection h with h
      exact ⟨⟨a, b, c, ⟨d, e, f, g, hh, i, j, k⟩⟩, by rw [show cs0 = seatC ⟨a, b, c, ⟨d, e, f, g, hh, i, j, k⟩⟩ from Array.toList_inj.1 hl], h.symm⟩
    · cases h
  · cases h
theorem seatD_inj {s t : SeatS} (h : seatD s = seatD t) : s = t := by
  unfold seatD SeatS.nums ReplyS.nums at h
  simp only [List.map_cons, List.map_nil, DataW.agg.injEq, List.cons.injEq, DataW.lit.injEq, Lit.int.injEq, true_and, and_true] at h
  obtain ⟨h0, h1, h2, h3, h4, h5, h6, h7, h8, h9, h10⟩ := h
  obtain ⟨a, b, c, ⟨d, e, f, g, hh, i, j, k⟩⟩ := s
  obtain ⟨a', b', c', ⟨d', e', f', g', hh', i', j', k'⟩⟩ := t
  simp only at h0 h1 h2 h3 h4 h5 h6 h7 h8 h9 h10
  subst h0; subst h1; subst h2; subst h3; subst h4; subst h5; subst h6; subst h7; subst h8; subst h9; subst h10
  rfl
theorem wf_i64 {n : Int} (h : I64 n) : (Lit.int .i64 n).wf = true := by
  have h1 := h.1
  have h2 := h.2
  simp only [Lit.wf, Bool.and_eq_true, decide_eq_true_eq]
  exact ⟨h1, h2⟩
theorem keyI {n : Int} (h : I64 n) : keyOf Try.prog 3 (.int .i64 n) = some (.int .i64 n) := Maps.keyOf_int_mk Try.underlying3 (wf_i64 h)
theorem keyedI : Maps.Keyed Try.prog 3 := Maps.int_keyed Try.underlying3
theorem zeroSeat (w : World) : (zeroValue 47).run Try.prog w = .ok (.agg (seatC zeroS)) w := by kernel_rfl
/-- The map at block b holds the seats L. -/
def TabM (w : World) (b : Nat) (L : List SeatS) : Prop := w.ownsMap Try.prog 3 seatR b L.length (encL L)
section
variable {w w' : World} {b : Nat} {L : List SeatS}
theorem TabM.of {n : Nat} (h : w.ownsMap Try.prog 3 seatR b n (encL L)) : TabM w b L := by
  obtain ⟨es, clock, hb, F, hs, hD⟩ := h
  refine ⟨es, clock, hb, F, ?_, hD⟩
  have h1 := length_read (P := Try.prog) (k := 3) (R0 := seatR) es
  have h2 := DataW.map.inj hD
  rw [← h2, List.length_map] at h1
  omega
theorem TabM.keep (h : TabM w b L) (hk : w'.heap[b]? = w.heap[b]?) : TabM w' b L := by
  obtain ⟨es, clock, hb, F, hs, hD⟩ := h
  exact ⟨es, clock, hk.trans hb, F, hs, hD⟩
theorem TabM.lt (h : TabM w b L) : b < w.heap.size := by
  obtain ⟨es, clock, hb, _⟩ := h
  exact (Array.getElem?_eq_some_iff.1 hb).1
theorem TabM.ext (h : TabM w b L) (he : Ext w w') : TabM w' b L := h.keep (he.block b h.lt)
theorem TabM.look (h : TabM w b L) {n : Int} (hn : I64 n) : (Instr.lookup 52 (.map (some b)) (.int .i64 n) true).run Try.prog w = .ok (.tuple #[.agg (seatC ((findS L n).getD zeroS)), .bool (findS L n).isSome]) w := by
  obtain ⟨v, ps, h1, h2⟩ := h.look_ok keyedI Try.underlying52 (zeroSeat w) (seatR_mk zeroS) (keyI hn)
  rw [atKey_encL] at h2
  obtain ⟨s, rfl, e⟩ := seatR_inv h2
  have e1 := (Prod.mk.inj e).1
  rw [has_encL] at h1
  rw [h1, seatD_inj e1]
theorem TabM.look1 (h : TabM w b L) {n : Int} (hn : I64 n) : (Instr.lookup 52 (.map (some b)) (.int .i64 n) false).run Try.prog w = .ok (.agg (seatC ((findS L n).getD zeroS))) w := by
  obtain ⟨v, ps, h1, h2⟩ := World.ownsMap.lookup h keyedI Try.underlying52 (zeroSeat w) (seatR_mk zeroS) (keyI hn)
  rw [atKey_encL] at h2
  obtain ⟨s, rfl, e⟩ := seatR_inv h2
  have e1 := (Prod.mk.inj e).1
  rw [h1, seatD_inj e1]
theorem TabM.size (h : TabM w b L) (ty : TypeId) : (Builtin.len_ #[52] ty #[.map (some b)]).run Try.prog w = .ok (.int .i64 (L.length : Int)) w := by
  have h1 := h.len Try.underlying52 ty
  rw [size_encL] at h1
  exact h1
theorem TabM.put (h : TabM w b L) (x : SeatS) (hx : I64 x.session) (hl : L.length ≤ 1000) : ∃ w', (Instr.mapUpdate 52 (.map (some b)) (.int .i64 x.session) (.agg (seatC x))).run Try.prog w = .ok () w' ∧ TabM w' b (putS L x) ∧ Upd (fun k => k = b) w w' := by
  obtain ⟨w', h1, h2, h3⟩ := World.ownsMap.update h keyedI Try.underlying52 (by unfold maxLen; omega) (keyI hx) (seatR_mk x)
  rw [put_encL] at h2
  exact ⟨w', h1, TabM.of h2, ⟨h3.os, h3.tape, h3.output, h3.size, fun k hk hn => h3.block k hk (fun e => hn (Option.some.inj e))⟩⟩
theorem TabM.made (w : World) : TabM (w.alloc (.map #[] 0)) w.heap.size [] := World.ownsMap_made w _ _ _
end
end Go.Proofs.Ytkedmpppfejofaa
set_option linter.unusedVariables false
set_option linter.unusedSimpArgs false
namespace Go.Proofs.Ytkedmpppfejofaa
open Go.RowKit

theorem del_encL (L : List SeatS) (n : Int) : (encL L).del (.int .i64 n) = encL (L.filter fun s => decide (s.session ≠ n)) := by
  unfold encL DataW.del
  simp only [DataW.map.injEq]
  rw [List.filter_map]
  congr 1
  apply List.filter_congr
  intro s _
  simp [seatP, same_i]
/-- By rising numbers. -/
def Rise (L : List SeatS) : Prop := L.Pairwise fun s t => s.session < t.session
theorem Rise.inj {L : List SeatS} (h : Rise L) {s t : SeatS} (hs : s ∈ L) (ht : t ∈ L) (e : s.session = t.session) : s = t := by
  obtain ⟨i, hi, rfl⟩ := List.getElem_of_mem hs
  obtain ⟨j, hj, rfl⟩ := List.getElem_of_mem ht
  rcases Nat.lt_trichotomy i j with h1 | h1 | h1
  · have := List.pairwise_iff_getElem.1 h i j hi hj h1; omega
  · subst h1; rfl
  · have := List.pairwise_iff_getElem.1 h j i hj hi h1; omega
/-- What is there while some are to come. -/
def curL (L : List SeatS) (from_ : Int) (left : Lit → Bool) : List SeatS := L.filter fun s => left (.int .i64 s.session) || !decide (s.at_ < from_)
theorem curL_all {L : List SeatS} {f : Int} {left : Lit → Bool} (h : ∀ s ∈ L, left (.int .i64 s.session) = true) : curL L f left = L := by
  unfold curL
  rw [List.filter_eq_self]
  intro s hs
  rw [h s hs]; rfl
theorem curL_end {L : List SeatS} {f : Int} {left : Lit → Bool} (h : ∀ kl, left kl = false) : curL L f left = L.filter fun s => decide (f ≤ s.at_) := by
  unfold curL
  apply List.filter_congr
  intro s _
  rw [h]
  by_cases h1 : s.at_ < f
  · have : ¬ f ≤ s.at_ := by omega
    simp [h1, this]
  · have : f ≤ s.at_ := by omega
    simp [h1, this]
theorem curL_go {L : List SeatS} {f : Int} {left : Lit → Bool} (hr : Rise L) {s : SeatS} (hs : s ∈ L) (hf : s.at_ < f) :
    (curL L f left).filter (fun t => decide (t.session ≠ s.session)) = curL L f fun z => left z && !z.sameKey (.int .i64 s.session) := by
  unfold curL
  rw [List.filter_filter]
  apply List.filter_congr
  intro t ht
  simp only [same_i]
  by_cases e : t.session = s.session
  · have := hr.inj ht hs e
    subst this
    simp [hf]
  · simp [e]
theorem curL_stay {L : List SeatS} {f : Int} {left : Lit → Bool} (hr : Rise L) {s : SeatS} (hs : s ∈ L) (hf : ¬ s.at_ < f) :
    curL L f left = curL L f fun z => left z && !z.sameKey (.int .i64 s.session) := by
  unfold curL
  apply List.filter_congr
  intro t ht
  simp only [same_i]
  by_cases e : t.session = s.session
  · have := hr.inj ht hs e
    subst this
    simp [hf]
  · simp [e]
end Go.Proofs.Ytkedmpppfejofaa
set_option linter.unusedVariables false
set_option linter.unusedSimpArgs false
namespace Go.Proofs.Ytkedmpppfejofaa
open Go.RowKit

section
variable {P : Program} {ops : Array Oper} {Q : Exit → Act → World → Prop} {md : Region.Mode} {S0 S1 : World → Prop} {f : Nat}

/-- Whatever order is picked; behind every operation S0 holds, and S1 while f is to come. -/
def wpF (P : Program) (md : Region.Mode) (ops : Array Oper) (Q : Exit → Act → World → Prop) (S0 S1 : World → Prop) (f : Nat) : Nat → Array Bool → Act → World → Prop
  | 0, listed, a, w => Region.ready md ops listed = [] ∧ Q .normal a w
  | fuel + 1, listed, a, w =>
    (Region.ready md ops listed = [] → Q .normal a w) ∧
    ∀ i ∈ Region.ready md ops listed, wpOp P ops Q i (fun a' w' => (S0 w' ∧ ((listed.setIfInBounds i true).getD f true = false → S1 w')) ∧ wpF P md ops Q S0 S1 f fuel (listed.setIfInBounds i true) a' w') a w
theorem wpF_any : ∀ (fuel : Nat) (listed : Array Bool) (a : Act) (w : World), wpF P md ops Q S0 S1 f fuel listed a w → wpAny P md ops Q fuel listed a w
  | 0, _, _, _, h => h
  | fuel + 1, _, _, _, h => ⟨h.1, fun i hi => wpOp_mono (fun a' w' h' => wpF_any fuel _ a' w' h'.2) (h.2 i hi)⟩
/-- What yields the same in every world that meets G is taken first; G holds while it is to come (T, hG). -/
theorem wpF_first {i : Nat} {oi : Oper} {v : Value} (G : World → Prop) (T : Array Bool → Prop) (hi : ops[i]? = some oi) (hsel : ∀ (j : Nat) (o : Oper) cs b, ops[j]? = some o → o.op ≠ .select cs b)
    (hQ : ∀ c a w, Q (.panic c) (a.put oi.dst v) w → Q (.panic c) a w) (hif : i ≠ f)
    (hG : ∀ (l : Array Bool) (w : World), T l → S0 w → (l.getD f true = false → S1 w) → G w)
    (hT : ∀ (l : Array Bool) (j : Nat) (oj : Oper), T l → ops[j]? = some oj → j ≠ i → (∀ e ∈ oj.after, Region.binds md e = true → e.on ≠ i) → T (l.setIfInBounds j true)) :
    ∀ (fuel : Nat) (listed : Array Bool) (a : Act) (w : World),
      (∀ j oj, ops[j]? = some oj → j ≠ i → listed.getD j true = false → (∀ e ∈ oj.after, Region.binds md e = true → e.on ≠ i) → oi.apart ops oj = true) →
      i ∈ Region.ready md ops listed → YieldsIf P ops G oi v a → S0 w → (listed.getD f true = false → S1 w) → T listed →
      wpF P md ops Q S0 S1 f fuel (listed.setIfInBounds i true) (a.put oi.dst v) w → wpF P md ops Q S0 S1 f (fuel + 1) listed a w := by
  intro fuel
  induction fuel with
  | zero =>
    intro listed a w _ hr hy hS0 hS1 hTl H
    refine ⟨fun h => (by rw [h] at hr; cases hr), fun j hj => ?_⟩
    by_cases hji : j = i
    · subst hji; exact hy.wpOp hi (hG _ _ hTl hS0 hS1) ⟨⟨hS0, fun e => hS1 (by rw [getD_set_ne true hif] at e; exact e)⟩, H⟩
    · have := ready_mono hj hji
      rw [H.1] at this
      cases this
  | succ fuel ih =>
    intro listed a w hfree hr hy hS0 hS1 hTl H
    refine ⟨fun h => (by rw [h] at hr; cases hr), fun j hj => ?_⟩
    by_cases hji : j = i
    · subst hji; exact hy.wpOp hi (hG _ _ hTl hS0 hS1) ⟨⟨hS0, fun e => hS1 (by rw [getD_set_ne true hif] at e; exact e)⟩, H⟩
    · have h1 := H.2 j (ready_mono hj hji)
      obtain ⟨hjun, oj, hoj, hall⟩ := mem_ready.1 hj
      have hnot : ∀ e ∈ oj.after, Region.binds md e = true → e.on ≠ i := fun e he hb heq => by
        have h1 := hall e he hb
        have h0 := (mem_ready.1 hr).1
        rw [heq] at h1
        rcases Nat.lt_or_ge i listed.size with h' | h'
        · simp [h'] at h0 h1; rw [h0] at h1; cases h1
        · simp [Array.getElem?_eq_none h'] at h1
      have h2 := wpOp_putIf hoj (hfree j oj hoj hji hjun hnot) (fun cs b => hsel i oi cs b hi) (fun cs b => hsel j oj cs b hoj) hQ hy h1
      have hfree' : ∀ k ok, ops[k]? = some ok → k ≠ i → (listed.setIfInBounds j true).getD k true = false →
          (∀ e ∈ ok.after, Region.binds md e = true → e.on ≠ i) → oi.apart ops ok = true := fun k ok hk hki hun hno => by
        refine hfree k ok hk hki ?_ hno
        by_cases hjk : j = k
        · subst hjk; exact hjun
        · rw [getD_set_ne true hjk] at hun; exact hun
      refine wpOp_mono (fun a' w' h3 => ?_) h2
      have hs : (listed.setIfInBounds j true).getD f true = false → S1 w' := fun e => h3.2.1.2 (by
        rw [Array.setIfInBounds_comm _ _ (Ne.symm hji), getD_set_ne true hif]; exact e)
      refine ⟨⟨h3.2.1.1, hs⟩, ih (listed.setIfInBounds j true) a' w' hfree' (ready_mono hr (Ne.symm hji)) h3.1 h3.2.1.1 hs (hT _ _ _ hTl hoj hji hnot) ?_⟩
      rw [Array.setIfInBounds_comm _ _ hji]
      exact h3.2.2
theorem op_at {i : Nat} {oi : Oper} {tl : List Oper} (h : ops.toList.drop i = oi :: tl) : ops[i]? = some oi := by
  rw [← Array.getElem?_toList]
  have := congrArg (fun l => l[0]?) h
  simpa [List.getElem?_drop] using this
/-- Taken first: what yields in every world that meets S0. -/
theorem wpF_take0 {i : Nat} {oi : Oper} {tl : List Oper} {v : Value} {fuel : Nat} {listed : Array Bool} {a : Act} {w : World} (hi' : ops.toList.drop i = oi :: tl)
    (hs : Region.noSelect ops = true) (hf : Region.free md ops listed i = true) (hr : (Region.ready md ops listed).contains i = true)
    (hQ : ∀ c a w, Q (.panic c) (a.put oi.dst v) w → Q (.panic c) a w) (hif : (i == f) = false) (hy : YieldsIf P ops S0 oi v a) (h0 : S0 w) (h1 : listed.getD f true = false → S1 w)
    (h : wpF P md ops Q S0 S1 f fuel (listed.setIfInBounds i true) (a.put oi.dst v) w) : wpF P md ops Q S0 S1 f (fuel + 1) listed a w :=
  wpF_first S0 (fun _ => True) (op_at hi') (Region.noSelect_spec hs) hQ (by simpa using hif) (fun _ _ _ h _ => h) (fun _ _ _ _ _ _ _ => trivial) fuel listed a w (Region.free_spec (op_at hi') hf) (by simpa using hr) hy h0 h1 trivial h
/-- Does f wait for i? -/
def waits (md : Region.Mode) (ops : Array Oper) (f i : Nat) : Bool := match ops[f]? with
  | some o => o.after.any fun e => Region.binds md e && e.on == i
  | none => false
/-- Taken first: what yields in every world that meets S0 and S1, while f, which waits for it, is to come. -/
theorem wpF_take1 {i : Nat} {oi : Oper} {tl : List Oper} {v : Value} {fuel : Nat} {listed : Array Bool} {a : Act} {w : World} (hi' : ops.toList.drop i = oi :: tl)
    (hs : Region.noSelect ops = true) (hf : Region.free md ops listed i = true) (hr : (Region.ready md ops listed).contains i = true)
    (hQ : ∀ c a w, Q (.panic c) (a.put oi.dst v) w → Q (.panic c) a w) (hif : (i == f) = false) (hw : waits md ops f i = true) (hl : listed.getD f true = false) (hy : YieldsIf P ops (fun w => S0 w ∧ S1 w) oi v a) (h0 : S0 w) (h1 : listed.getD f true = false → S1 w)
    (h : wpF P md ops Q S0 S1 f fuel (listed.setIfInBounds i true) (a.put oi.dst v) w) : wpF P md ops Q S0 S1 f (fuel + 1) listed a w :=
  wpF_first (fun w => S0 w ∧ S1 w) (fun l => l.getD f true = false) (op_at hi') (Region.noSelect_spec hs) hQ (by simpa using hif) (fun _ _ hT h0 h1 => ⟨h0, h1 hT⟩) (fun l j oj hT hoj hji hno => by
    by_cases hjf : j = f
    · subst hjf
      unfold waits at hw
      rw [hoj] at hw
      simp only [Array.any_eq_true', Bool.and_eq_true, beq_iff_eq, List.any_eq_true] at hw
      obtain ⟨e, he, hb, hei⟩ := hw
      exact absurd hei (hno e he hb)
    · rw [getD_set_ne true hjf]; exact hT) fuel listed a w (Region.free_spec (op_at hi') hf) (by simpa using hr) hy h0 h1 hl h
/-- The one that may come up comes up. -/
theorem wpF_step {i : Nat} {o : Oper} {tl : List Oper} {fuel : Nat} {listed : Array Bool} {a : Act} {w : World} (hr : Region.ready md ops listed = [i]) (ho : ops.toList.drop i = o :: tl)
    (h : ∀ K' : Act → World → Prop, Hid (∀ a w, S0 w → ((listed.setIfInBounds i true).getD f true = false → S1 w) → wpF P md ops Q S0 S1 f fuel (listed.setIfInBounds i true) a w → K' a w) → if Region.wanted o (yielded ops a.tmps) = true then Oper.wp P o a w K' Q else K' (a.put o.dst undef) w) :
    wpF P md ops Q S0 S1 f (fuel + 1) listed a w := by
  refine ⟨fun h0 => (by rw [hr] at h0; cases h0), fun j hj => ?_⟩
  rw [hr] at hj
  obtain rfl : j = i := by simpa using hj
  exact wpOp_step (op_at ho) fun K' hK => h K' (Lib.hid fun a w h0 h1 h2 => hK a w ⟨⟨h0, h1⟩, h2⟩)
theorem wpF_done {listed : Array Bool} {a : Act} {w : World} (hr : Region.ready md ops listed = []) (h : Q .normal a w) :
    ∀ fuel, wpF P md ops Q S0 S1 f fuel listed a w
  | 0 => ⟨hr, h⟩
  | _ + 1 => ⟨fun _ => h, by rw [hr]; simp⟩
/-- f has come up: S1 is asked no more. -/
theorem gone {l : Array Bool} {f : Nat} {p : Prop} (h : l.getD f true = true) : l.getD f true = false → p := fun e => by rw [h] at e; cases e
/-- The beginning. -/
theorem wpF_region (S0 S1 : World → Prop) (f n : Nat) {id : Nat} {a : Act} {w : World} (hm : P.follows .mixedOrders = true) (hn : ops.size = n)
    (h : wpF P .any ops (NoPanic Q) S0 S1 f n (Array.replicate n false) a w.drew) : (Code.region id ops true).wp P Q a w := by
  subst hn
  exact wp_region_noPanic (wp_region_any hm (wpF_any _ _ _ _ h))
end
end Go.Proofs.Ytkedmpppfejofaa
set_option linter.unusedVariables false
set_option linter.unusedSimpArgs false
namespace Go.Proofs.Ytkedmpppfejofaa

def partR (n : Nat) : Code → Option Code
  | .region i o d => if i = n then some (.region i o d) else none
  | .loop c => partR n c
  | .seq a b => match partR n a with
    | some c => some c
    | none => partR n b
  | .block _ c => partR n c
  | .scope c => partR n c
  | .cond _ a b => match partR n a with
    | some c => some c
    | none => partR n b
  | _ => none
def partB (n : Nat) : Code → Option Code
  | .loop c => partB n c
  | .seq a b => match partB n a with
    | some c => some c
    | none => partB n b
  | .block i c => if i = n then some (.block i c) else partB n c
  | .scope c => partB n c
  | .cond _ a b => match partB n a with
    | some c => some c
    | none => partB n b
  | _ => none
end Go.Proofs.Ytkedmpppfejofaa
set_option linter.unusedVariables false
set_option linter.unusedSimpArgs false
namespace Go.Proofs.Ytkedmpppfejofaa
open Go.RowKit

set_option maxRecDepth 1000000 in
set_option maxHeartbeats 4000000 in
theorem ses3 {Q : Exit → Act → World → Prop} {w : World} {c1 c2 c5 c6 c7 c8 c9 c10 c11 c12 c13 c14 c15 c16 c17 c18 c19 c20 c21 c22 c23 c24 c25 c26 c27 c28 c29 c30 c31 c32 c33 c34 c35 c36 c37 c38 c39 c40 c41 c42 c43 c44 c45 c46 : Value} (p e : Nat)
    (hK : ∀ (u14 u15 u16 u17 u18 u19 u20 u21 u22 u23 u24 u25 u26 u27 u28 u29 u30 u31 u32 u33 u34 u35 u36 u37 u38 u39 u40 u41 u42 u43 u44 u45 u46 : Value) (wx : World), Hid (wx.heap[w.heap.size]? = some (.cells #[.pointer (some ⟨p, 0, none⟩), .pointer (some ⟨p, 1, none⟩), .pointer (some ⟨p, 2, none⟩), .pointer (some ⟨e, 0, none⟩), .pointer (some ⟨p, 4, none⟩), .pointer (some ⟨p, 5, none⟩), .pointer (some ⟨p, 6, none⟩), .pointer (some ⟨p, 7, none⟩), .pointer (some ⟨p, 8, none⟩), .pointer (some ⟨p, 9, none⟩), .pointer (some ⟨p, 10, none⟩)] 74 (0, 0)) ∧ Ext w wx) → Q .normal ⟨#[.pointer (some ⟨p, 0, none⟩), c1, .slice (some ⟨w.heap.size, 0, none⟩) 11 11, .pointer (some ⟨e, 0, none⟩), .pointer (some ⟨p, 6, none⟩), c5, c6, c7, c8, c9, c10, c11, c12, c13, u14, u15, u16, u17, u18, u19, u20, u21, u22, u23, u24, u25, u26, u27, u28, u29, u30, u31, u32, u33, u34, u35, u36, u37, u38, u39, u40, u41, u42, u43, u44, u45, u46], []⟩ wx) :
    Code.wp Try.prog ((Try.f33.body.bind (partR 3)).getD .skip) Q ⟨#[.pointer (some ⟨p, 0, none⟩), c1, c2, .pointer (some ⟨e, 0, none⟩), .pointer (some ⟨p, 6, none⟩), c5, c6, c7, c8, c9, c10, c11, c12, c13, c14, c15, c16, c17, c18, c19, c20, c21, c22, c23, c24, c25, c26, c27, c28, c29, c30, c31, c32, c33, c34, c35, c36, c37, c38, c39, c40, c41, c42, c43, c44, c45, c46], []⟩ w := by
  conv => arg 2; whnf
  have hK2 := Lib.hid @hK
  clear hK
  refine wpF_region (fun _ => True) (fun _ => True) 99 34 (by kernel_rfl) (by kernel_rfl) ?_
  refine wpF_take0 (i := 0) (v := ?v1) rfl (by kernel_rfl) (by kernel_rfl) (by kernel_rfl) (fun _ _ _ h => h) (by kernel_rfl) (Or.inl ⟨by rfl, ?hy1⟩) trivial (gone (by kernel_rfl)) ?rest1
  case hy1 => (intro W hSW; (try dsimp only at hSW); go_simp; (try with_reducible rfl))
  (try simp only [Act.put, List.setIfInBounds_toArray, List.set_cons_zero, List.set_cons_succ])
  refine wpF_take0 (i := 1) (v := ?v2) rfl (by kernel_rfl) (by kernel_rfl) (by kernel_rfl) (fun _ _ _ h => h) (by kernel_rfl) (Or.inl ⟨by rfl, ?hy2⟩) trivial (gone (by kernel_rfl)) ?rest2
  case hy2 => (intro W hSW; (try dsimp only at hSW); go_simp; (try with_reducible rfl))
  (try simp only [Act.put, List.setIfInBounds_toArray, List.set_cons_zero, List.set_cons_succ])
  refine wpF_take0 (i := 2) (v := ?v3) rfl (by kernel_rfl) (by kernel_rfl) (by kernel_rfl) (fun _ _ _ h => h) (by kernel_rfl) (Or.inl ⟨by rfl, ?hy3⟩) trivial (gone (by kernel_rfl)) ?rest3
  case hy3 => (intro W hSW; (try dsimp only at hSW); go_simp; (try with_reducible rfl))
  (try simp only [Act.put, List.setIfInBounds_toArray, List.set_cons_zero, List.set_cons_succ])
  refine wpF_take0 (i := 3) (v := ?v4) rfl (by kernel_rfl) (by kernel_rfl) (by kernel_rfl) (fun _ _ _ h => h) (by kernel_rfl) (Or.inl ⟨by rfl, ?hy4⟩) trivial (gone (by kernel_rfl)) ?rest4
  case hy4 => (intro W hSW; (try dsimp only at hSW); go_simp; (try with_reducible rfl))
  (try simp only [Act.put, List.setIfInBounds_toArray, List.set_cons_zero, List.set_cons_succ])
  refine wpF_take0 (i := 4) (v := ?v5) rfl (by kernel_rfl) (by kernel_rfl) (by kernel_rfl) (fun _ _ _ h => h) (by kernel_rfl) (Or.inl ⟨by rfl, ?hy5⟩) trivial (gone (by kernel_rfl)) ?rest5
  case hy5 => (intro W hSW; (try dsimp only at hSW); go_simp; (try with_reducible rfl))
  (try simp only [Act.put, List.setIfInBounds_toArray, List.set_cons_zero, List.set_cons_succ])
  refine wpF_take0 (i := 5) (v := ?v6) rfl (by kernel_rfl) (by kernel_rfl) (by kernel_rfl) (fun _ _ _ h => h) (by kernel_rfl) (Or.inl ⟨by rfl, ?hy6⟩) trivial (gone (by kernel_rfl)) ?rest6
  case hy6 => (intro W hSW; (try dsimp only at hSW); go_simp; (try with_reducible rfl))
  (try simp only [Act.put, List.setIfInBounds_toArray, List.set_cons_zero, List.set_cons_succ])
  refine wpF_take0 (i := 6) (v := ?v7) rfl (by kernel_rfl) (by kernel_rfl) (by kernel_rfl) (fun _ _ _ h => h) (by kernel_rfl) (Or.inl ⟨by rfl, ?hy7⟩) trivial (gone (by kernel_rfl)) ?rest7
  case hy7 => (intro W hSW; (try dsimp only at hSW); go_simp; (try with_reducible rfl))
  (try simp only [Act.put, List.setIfInBounds_toArray, List.set_cons_zero, List.set_cons_succ])
  refine wpF_take0 (i := 7) (v := ?v8) rfl (by kernel_rfl) (by kernel_rfl) (by kernel_rfl) (fun _ _ _ h => h) (by kernel_rfl) (Or.inl ⟨by rfl, ?hy8⟩) trivial (gone (by kernel_rfl)) ?rest8
  case hy8 => (intro W hSW; (try dsimp only at hSW); go_simp; (try with_reducible rfl))
  (try simp only [Act.put, List.setIfInBounds_toArray, List.set_cons_zero, List.set_cons_succ])
  refine wpF_take0 (i := 8) (v := ?v9) rfl (by kernel_rfl) (by kernel_rfl) (by kernel_rfl) (fun _ _ _ h => h) (by kernel_rfl) (Or.inl ⟨by rfl, ?hy9⟩) trivial (gone (by kernel_rfl)) ?rest9
  case hy9 => (intro W hSW; (try dsimp only at hSW); go_simp; (try with_reducible rfl))
  (try simp only [Act.put, List.setIfInBounds_toArray, List.set_cons_zero, List.set_cons_succ])
  refine wpF_take0 (i := 9) (v := ?v10) rfl (by kernel_rfl) (by kernel_rfl) (by kernel_rfl) (fun _ _ _ h => h) (by kernel_rfl) (Or.inl ⟨by rfl, ?hy10⟩) trivial (gone (by kernel_rfl)) ?rest10
  case hy10 => (intro W hSW; (try dsimp only at hSW); go_simp; (try with_reducible rfl))
  (try simp only [Act.put, List.setIfInBounds_toArray, List.set_cons_zero, List.set_cons_succ])
  refine wpF_take0 (i := 10) (v := ?v11) rfl (by kernel_rfl) (by kernel_rfl) (by kernel_rfl) (fun _ _ _ h => h) (by kernel_rfl) (Or.inl ⟨by rfl, ?hy11⟩) trivial (gone (by kernel_rfl)) ?rest11
  case hy11 => (intro W hSW; (try dsimp only at hSW); go_simp; (try with_reducible rfl))
  (try simp only [Act.put, List.setIfInBounds_toArray, List.set_cons_zero, List.set_cons_succ])
  refine wpF_take0 (i := 11) (v := ?v12) rfl (by kernel_rfl) (by kernel_rfl) (by kernel_rfl) (fun _ _ _ h => h) (by kernel_rfl) (Or.inl ⟨by rfl, ?hy12⟩) trivial (gone (by kernel_rfl)) ?rest12
  case hy12 => (intro W hSW; (try dsimp only at hSW); go_simp; (try with_reducible rfl))
  (try simp only [Act.put, List.setIfInBounds_toArray, List.set_cons_zero, List.set_cons_succ])
  refine wpF_take0 (i := 12) (v := ?v13) rfl (by kernel_rfl) (by kernel_rfl) (by kernel_rfl) (fun _ _ _ h => h) (by kernel_rfl) (Or.inl ⟨by rfl, ?hy13⟩) trivial (gone (by kernel_rfl)) ?rest13
  case hy13 => (intro W hSW; (try dsimp only at hSW); go_simp; (try with_reducible rfl))
  (try simp only [Act.put, List.setIfInBounds_toArray, List.set_cons_zero, List.set_cons_succ])
  refine wpF_take0 (i := 13) (v := ?v14) rfl (by kernel_rfl) (by kernel_rfl) (by kernel_rfl) (fun _ _ _ h => h) (by kernel_rfl) (Or.inl ⟨by rfl, ?hy14⟩) trivial (gone (by kernel_rfl)) ?rest14
  case hy14 => (intro W hSW; (try dsimp only at hSW); go_simp; (try with_reducible rfl))
  (try simp only [Act.put, List.setIfInBounds_toArray, List.set_cons_zero, List.set_cons_succ])
  refine wpF_take0 (i := 14) (v := ?v15) rfl (by kernel_rfl) (by kernel_rfl) (by kernel_rfl) (fun _ _ _ h => h) (by kernel_rfl) (Or.inl ⟨by rfl, ?hy15⟩) trivial (gone (by kernel_rfl)) ?rest15
  case hy15 => (intro W hSW; (try dsimp only at hSW); go_simp; (try with_reducible rfl))
  (try simp only [Act.put, List.setIfInBounds_toArray, List.set_cons_zero, List.set_cons_succ])
  refine wpF_take0 (i := 15) (v := ?v16) rfl (by kernel_rfl) (by kernel_rfl) (by kernel_rfl) (fun _ _ _ h => h) (by kernel_rfl) (Or.inl ⟨by rfl, ?hy16⟩) trivial (gone (by kernel_rfl)) ?rest16
  case hy16 => (intro W hSW; (try dsimp only at hSW); go_simp; (try with_reducible rfl))
  (try simp only [Act.put, List.setIfInBounds_toArray, List.set_cons_zero, List.set_cons_succ])
  refine wpF_take0 (i := 16) (v := ?v17) rfl (by kernel_rfl) (by kernel_rfl) (by kernel_rfl) (fun _ _ _ h => h) (by kernel_rfl) (Or.inl ⟨by rfl, ?hy17⟩) trivial (gone (by kernel_rfl)) ?rest17
  case hy17 => (intro W hSW; (try dsimp only at hSW); go_simp; (try with_reducible rfl))
  (try simp only [Act.put, List.setIfInBounds_toArray, List.set_cons_zero, List.set_cons_succ])
  refine wpF_take0 (i := 17) (v := ?v18) rfl (by kernel_rfl) (by kernel_rfl) (by kernel_rfl) (fun _ _ _ h => h) (by kernel_rfl) (Or.inl ⟨by rfl, ?hy18⟩) trivial (gone (by kernel_rfl)) ?rest18
  case hy18 => (intro W hSW; (try dsimp only at hSW); go_simp; (try with_reducible rfl))
  (try simp only [Act.put, List.setIfInBounds_toArray, List.set_cons_zero, List.set_cons_succ])
  refine wpF_take0 (i := 18) (v := ?v19) rfl (by kernel_rfl) (by kernel_rfl) (by kernel_rfl) (fun _ _ _ h => h) (by kernel_rfl) (Or.inl ⟨by rfl, ?hy19⟩) trivial (gone (by kernel_rfl)) ?rest19
  case hy19 => (intro W hSW; (try dsimp only at hSW); go_simp; (try with_reducible rfl))
  (try simp only [Act.put, List.setIfInBounds_toArray, List.set_cons_zero, List.set_cons_succ])
  refine wpF_take0 (i := 19) (v := ?v20) rfl (by kernel_rfl) (by kernel_rfl) (by kernel_rfl) (fun _ _ _ h => h) (by kernel_rfl) (Or.inl ⟨by rfl, ?hy20⟩) trivial (gone (by kernel_rfl)) ?rest20
  case hy20 => (intro W hSW; (try dsimp only at hSW); go_simp; (try with_reducible rfl))
  (try simp only [Act.put, List.setIfInBounds_toArray, List.set_cons_zero, List.set_cons_succ])
  refine wpF_take0 (i := 20) (v := ?v21) rfl (by kernel_rfl) (by kernel_rfl) (by kernel_rfl) (fun _ _ _ h => h) (by kernel_rfl) (Or.inl ⟨by rfl, ?hy21⟩) trivial (gone (by kernel_rfl)) ?rest21
  case hy21 => (intro W hSW; (try dsimp only at hSW); go_simp; (try with_reducible rfl))
  (try simp only [Act.put, List.setIfInBounds_toArray, List.set_cons_zero, List.set_cons_succ])
  refine wpF_take0 (i := 21) (v := ?v22) rfl (by kernel_rfl) (by kernel_rfl) (by kernel_rfl) (fun _ _ _ h => h) (by kernel_rfl) (Or.inl ⟨by rfl, ?hy22⟩) trivial (gone (by kernel_rfl)) ?rest22
  case hy22 => (intro W hSW; (try dsimp only at hSW); go_simp; (try with_reducible rfl))
  (try simp only [Act.put, List.setIfInBounds_toArray, List.set_cons_zero, List.set_cons_succ])
  refine wpF_take0 (i := 22) (v := ?v23) rfl (by kernel_rfl) (by kernel_rfl) (by kernel_rfl) (fun _ _ _ h => h) (by kernel_rfl) (Or.inl ⟨by rfl, ?hy23⟩) trivial (gone (by kernel_rfl)) ?rest23
  case hy23 => (intro W hSW; (try dsimp only at hSW); go_simp; (try with_reducible rfl))
  (try simp only [Act.put, List.setIfInBounds_toArray, List.set_cons_zero, List.set_cons_succ])
  refine wpF_take0 (i := 23) (v := ?v24) rfl (by kernel_rfl) (by kernel_rfl) (by kernel_rfl) (fun _ _ _ h => h) (by kernel_rfl) (Or.inl ⟨by rfl, ?hy24⟩) trivial (gone (by kernel_rfl)) ?rest24
  case hy24 => (intro W hSW; (try dsimp only at hSW); go_simp; (try with_reducible rfl))
  (try simp only [Act.put, List.setIfInBounds_toArray, List.set_cons_zero, List.set_cons_succ])
  refine wpF_take0 (i := 24) (v := ?v25) rfl (by kernel_rfl) (by kernel_rfl) (by kernel_rfl) (fun _ _ _ h => h) (by kernel_rfl) (Or.inl ⟨by rfl, ?hy25⟩) trivial (gone (by kernel_rfl)) ?rest25
  case hy25 => (intro W hSW; (try dsimp only at hSW); go_simp; (try with_reducible rfl))
  (try simp only [Act.put, List.setIfInBounds_toArray, List.set_cons_zero, List.set_cons_succ])
  refine wpF_take0 (i := 25) (v := ?v26) rfl (by kernel_rfl) (by kernel_rfl) (by kernel_rfl) (fun _ _ _ h => h) (by kernel_rfl) (Or.inl ⟨by rfl, ?hy26⟩) trivial (gone (by kernel_rfl)) ?rest26
  case hy26 => (intro W hSW; (try dsimp only at hSW); go_simp; (try with_reducible rfl))
  (try simp only [Act.put, List.setIfInBounds_toArray, List.set_cons_zero, List.set_cons_succ])
  refine wpF_take0 (i := 26) (v := ?v27) rfl (by kernel_rfl) (by kernel_rfl) (by kernel_rfl) (fun _ _ _ h => h) (by kernel_rfl) (Or.inl ⟨by rfl, ?hy27⟩) trivial (gone (by kernel_rfl)) ?rest27
  case hy27 => (intro W hSW; (try dsimp only at hSW); go_simp; (try with_reducible rfl))
  (try simp only [Act.put, List.setIfInBounds_toArray, List.set_cons_zero, List.set_cons_succ])
  refine wpF_take0 (i := 27) (v := ?v28) rfl (by kernel_rfl) (by kernel_rfl) (by kernel_rfl) (fun _ _ _ h => h) (by kernel_rfl) (Or.inl ⟨by rfl, ?hy28⟩) trivial (gone (by kernel_rfl)) ?rest28
  case hy28 => (intro W hSW; (try dsimp only at hSW); go_simp; (try with_reducible rfl))
  (try simp only [Act.put, List.setIfInBounds_toArray, List.set_cons_zero, List.set_cons_succ])
  refine wpF_take0 (i := 28) (v := ?v29) rfl (by kernel_rfl) (by kernel_rfl) (by kernel_rfl) (fun _ _ _ h => h) (by kernel_rfl) (Or.inl ⟨by rfl, ?hy29⟩) trivial (gone (by kernel_rfl)) ?rest29
  case hy29 => (intro W hSW; (try dsimp only at hSW); go_simp; (try with_reducible rfl))
  (try simp only [Act.put, List.setIfInBounds_toArray, List.set_cons_zero, List.set_cons_succ])
  refine wpF_take0 (i := 29) (v := ?v30) rfl (by kernel_rfl) (by kernel_rfl) (by kernel_rfl) (fun _ _ _ h => h) (by kernel_rfl) (Or.inl ⟨by rfl, ?hy30⟩) trivial (gone (by kernel_rfl)) ?rest30
  case hy30 => (intro W hSW; (try dsimp only at hSW); go_simp; (try with_reducible rfl))
  (try simp only [Act.put, List.setIfInBounds_toArray, List.set_cons_zero, List.set_cons_succ])
  refine wpF_take0 (i := 30) (v := ?v31) rfl (by kernel_rfl) (by kernel_rfl) (by kernel_rfl) (fun _ _ _ h => h) (by kernel_rfl) (Or.inl ⟨by rfl, ?hy31⟩) trivial (gone (by kernel_rfl)) ?rest31
  case hy31 => (intro W hSW; (try dsimp only at hSW); go_simp; (try with_reducible rfl))
  (try simp only [Act.put, List.setIfInBounds_toArray, List.set_cons_zero, List.set_cons_succ])
  refine wpF_take0 (i := 31) (v := ?v32) rfl (by kernel_rfl) (by kernel_rfl) (by kernel_rfl) (fun _ _ _ h => h) (by kernel_rfl) (Or.inl ⟨by rfl, ?hy32⟩) trivial (gone (by kernel_rfl)) ?rest32
  case hy32 => (intro W hSW; (try dsimp only at hSW); go_simp; (try with_reducible rfl))
  (try simp only [Act.put, List.setIfInBounds_toArray, List.set_cons_zero, List.set_cons_succ])
  refine wpF_step (i := 32) (by kernel_rfl) rfl (fun K hK => ?_)
  go_simp
  refine hK.out _ _ trivial (gone (by kernel_rfl)) ?_
  clear hK K
  (try simp only [Act.put, List.setIfInBounds_toArray, List.set_cons_zero, List.set_cons_succ])
  refine wpF_take0 (i := 33) (v := ?v33) rfl (by kernel_rfl) (by kernel_rfl) (by kernel_rfl) (fun _ _ _ h => h) (by kernel_rfl) (Or.inl ⟨by rfl, ?hy33⟩) trivial (gone (by kernel_rfl)) ?rest33
  case hy33 => (intro W hSW; (try dsimp only at hSW); go_simp; (try with_reducible rfl))
  (try simp only [Act.put, List.setIfInBounds_toArray, List.set_cons_zero, List.set_cons_succ])
  refine wpF_done (by kernel_rfl) ?_ _
  refine NoPanic.normal ?_
  exact hK2.out _ _ _ _ _ _ _ _ _ _ _ _ _ _ _ _ _ _ _ _ _ _ _ _ _ _ _ _ _ _ _ _ _ _  (Lib.hid ⟨heap_new w.drew _ rfl (.cells #[.pointer (some ⟨p, 0, none⟩), .pointer (some ⟨p, 1, none⟩), .pointer (some ⟨p, 2, none⟩), .pointer (some ⟨e, 0, none⟩), .pointer (some ⟨p, 4, none⟩), .pointer (some ⟨p, 5, none⟩), .pointer (some ⟨p, 6, none⟩), .pointer (some ⟨p, 7, none⟩), .pointer (some ⟨p, 8, none⟩), .pointer (some ⟨p, 9, none⟩), .pointer (some ⟨p, 10, none⟩)] 74), ((Ext.refl w).drew).alloc _⟩)
end Go.Proofs.Ytkedmpppfejofaa
set_option linter.unusedVariables false
set_option linter.unusedSimpArgs false
namespace Go.Proofs.Ytkedmpppfejofaa
open Go.RowKit

/-- The model's words for what is left of a slice. -/
def restA (A : Option Addr) (c k : Nat) : Option Addr := if c = k then A else Option.map (fun x => x.add k) A
/-- A part of a slice. -/
def partV (A : Option Addr) (c l h : Nat) : Value := .slice (restA A c l) (h - l) (c - l)
theorem partV_eq (A : Option Addr) (c l h : Nat) : partV A c l h = .slice (restA A c l) (h - l) (c - l) := rfl

section
variable {P : Program} {t e : TypeId} {z : Value} {bytes : Nat}
theorem slice_from (hE : ElemT P t e z 1 bytes) (A : Option Addr) (len cap : Nat) (k : IntKind) (l : Int) (L : Nat) (hl : l = (L : Int)) (h : L ≤ len) (W : World) :
    (Instr.sliceAt t (.slice A len cap) (some (.int k l)) none none).run P W = .ok (partV A cap L len) W := by
  obtain ⟨i, hi, hz0, hz1, hz2⟩ := info_parts hE.info
  have ht : P.underlying t = some (.slice (P.elem t)) := by rw [hE.under]; simp [Program.elem, hE.under]
  have he : P.elem t = e := by simp [Program.elem, hE.under]
  subst hl
  rw [run_sliceAt_slice _ _ _ _ _ _ ht, run_slice_l _ _ _ _ _ ht _ _ (by omega) (by omega), he]
  simp [sizeOf, typeInfo, hi, hz1, sliced, partV, restA]
theorem slice_to (hE : ElemT P t e z 1 bytes) (A : Option Addr) (len cap : Nat) (k : IntKind) (h : Int) (H : Nat) (hh : h = (H : Int)) (hc : H ≤ cap) (W : World) :
    (Instr.sliceAt t (.slice A len cap) none (some (.int k h)) none).run P W = .ok (partV A cap 0 H) W := by
  obtain ⟨i, hi, hz0, hz1, hz2⟩ := info_parts hE.info
  have ht : P.underlying t = some (.slice (P.elem t)) := by rw [hE.under]; simp [Program.elem, hE.under]
  have he : P.elem t = e := by simp [Program.elem, hE.under]
  subst hh
  rw [run_sliceAt_slice _ _ _ _ _ _ ht, run_slice_h _ _ _ _ _ ht _ _ (by omega) (by omega), he]
  simp [sizeOf, typeInfo, hi, hz1, sliced, partV, restA]
theorem slice_of (hE : ElemT P t e z 1 bytes) (A : Option Addr) (len cap : Nat) (k k' : IntKind) (l h : Int) (L H : Nat) (hl : l = (L : Int)) (hh : h = (H : Int)) (hlh : L ≤ H) (hc : H ≤ cap) (W : World) :
    (Instr.sliceAt t (.slice A len cap) (some (.int k l)) (some (.int k' h)) none).run P W = .ok (partV A cap L H) W := by
  obtain ⟨i, hi, hz0, hz1, hz2⟩ := info_parts hE.info
  have ht : P.underlying t = some (.slice (P.elem t)) := by rw [hE.under]; simp [Program.elem, hE.under]
  have he : P.elem t = e := by simp [Program.elem, hE.under]
  subst hl; subst hh
  rw [run_sliceAt_slice _ _ _ _ _ _ ht, run_slice_lh _ _ _ _ _ ht _ _ _ _ (by omega) (by omega) (by omega), he]
  simp [sizeOf, typeInfo, hi, hz1, sliced, partV, restA]
end

theorem Rs.part {α : Type} {d : Kd α} {w : World} {S : Nat → Prop} {A : Option Addr} {m c l h : Nat} {xs : List α} (hr : Rs d w S (.slice A m c) xs) (hd : d.sz = 1) (hl : l ≤ h) (hh : h ≤ xs.length) :
    Rs d w S (partV A c l h) ((xs.drop l).take (h - l)) := by
  obtain ⟨A', c', he, hlen, hc, hz, hrow⟩ := hr
  injection he with e1 e2 e3
  subst e1; subst e3
  have e : ((xs.drop l).take (h - l)).length = h - l := by rw [List.length_take, List.length_drop]; omega
  refine ⟨_, c - l, by rw [e]; rfl, by rw [e]; omega, by omega, by rw [e]; omega, ?_⟩
  unfold restA
  split
  · exact Row.empty (by rw [e]; omega)
  · have := (hrow.drop l).take (h - l)
    rw [hd, Nat.mul_one] at this
    exact this
theorem Rs.from_ {α : Type} {d : Kd α} {w : World} {S : Nat → Prop} {A : Option Addr} {m c l : Nat} {xs : List α} (hr : Rs d w S (.slice A m c) xs) (hd : d.sz = 1) (hl : l ≤ xs.length) :
    Rs d w S (partV A c l xs.length) (xs.drop l) := by
  have := hr.part hd hl (Nat.le_refl _)
  rwa [List.take_of_length_le (by rw [List.length_drop]; omega)] at this
theorem Rs.to_ {α : Type} {d : Kd α} {w : World} {S : Nat → Prop} {A : Option Addr} {m c h : Nat} {xs : List α} (hr : Rs d w S (.slice A m c) xs) (hd : d.sz = 1) (hh : h ≤ xs.length) :
    Rs d w S (partV A c 0 h) (xs.take h) := by
  have := hr.part hd (Nat.zero_le h) hh
  simpa using this
/-- The same slice, its form laid open. -/
theorem Rs.shape {α : Type} {d : Kd α} {w : World} {S : Nat → Prop} {A : Option Addr} {m c : Nat} {xs : List α} (hr : Rs d w S (.slice A m c) xs) : m = xs.length ∧ xs.length ≤ c ∧ c ≤ 9223372036854775807 ∧ xs.length ≤ 140737488355328 ∧ Row d w S A xs := by
  obtain ⟨A', c', he, hlen, hc, hz, hrow⟩ := hr
  injection he with e1 e2 e3
  subst e1; subst e3
  exact ⟨e2, hlen, hc, hz, hrow⟩
end Go.Proofs.Ytkedmpppfejofaa
