/-
  Texts of this claim, put together: DskSet, DskLawK, DskLawK2, DskAwake, DiskNobody.
-/
import Derived.Test.YtjjhmknlhfijjaaZ7
import Derived.Test.YtjjhmknlhfijjaaZ2
import Derived.Lib.SlBytesConst
set_option linter.unusedVariables false
set_option linter.unusedSimpArgs false
namespace Go.Proofs.Ytjjhmknlhfijjaa
open Go.RowKit

/-- A disk and where it lies. -/
structure DkE where
  p : Nat
  M : Nat → Prop
  D : Nat → Prop
  s : DkS
def DkAp (x y : DkE) : Prop := (∀ k, x.M k → ¬ y.M k ∧ ¬ y.D k) ∧ ∀ k, y.M k → ¬ x.D k
structure DkL (w0 w : World) (l : List DkE) : Prop where
  ext : Ext w0 w
  each : ∀ (i : Nat) (x : DkE), l[i]? = some x → DkX w x.p x.M x.D x.s
  from_ : ∀ (i : Nat) (x : DkE), l[i]? = some x → (∀ k, x.M k → w0.heap.size ≤ k) ∧ ∀ k, x.D k → w0.heap.size ≤ k
  apart : ∀ (i j : Nat) (x y : DkE), l[i]? = some x → l[j]? = some y → i ≠ j → DkAp x y
/-- The disks at the addresses ps, in this order; all they use is younger than w0. -/
def DkS_ (w0 w : World) (ps : List (Nat × DkS)) : Prop := ∃ l, DkL w0 w l ∧ l.map (fun x => (x.p, x.s)) = ps
theorem DkX.ltM {w : World} {p : Nat} {M D : Nat → Prop} {s : DkS} (h : DkX w p M D s) : ∀ k, M k → k < w.heap.size := by
  obtain ⟨b1, b2, av, h⟩ := h; exact h.ltM
theorem DkX.ltD {w : World} {p : Nat} {M D : Nat → Prop} {s : DkS} (h : DkX w p M D s) : ∀ k, D k → k < w.heap.size := by
  obtain ⟨b1, b2, av, h⟩ := h; exact h.ltD
theorem DkX.apart {w : World} {p : Nat} {M D : Nat → Prop} {s : DkS} (h : DkX w p M D s) : ∀ k, D k → ¬ M k := by
  obtain ⟨b1, b2, av, h⟩ := h; exact h.apart
theorem DkX.upd {w w' : World} {p : Nat} {M D S : Nat → Prop} {s : DkS} (h : DkX w p M D s) (hu : Upd S w w') (hM : ∀ k, M k → ¬ S k) (hD : ∀ k, D k → ¬ S k) : DkX w' p M D s := by
  obtain ⟨b1, b2, av, h⟩ := h; exact ⟨b1, b2, av, h.upd hu hM hD⟩
theorem DkL.ext_ {w0 w w' : World} {l : List DkE} (h : DkL w0 w l) (he : Ext w w') : DkL w0 w' l :=
  ⟨h.ext.trans he, fun i x hx => (h.each i x hx).ext he, h.from_, h.apart⟩
theorem DkL.step {w0 w w' : World} {l : List DkE} (h : DkL w0 w l) {i : Nat} {x : DkE} (hi : l[i]? = some x) {M' D' : Nat → Prop} {s' : DkS} (hx : DkX w' x.p M' D' s') (hT : DkT w w' x.M x.D M' D') : DkL w0 w' (l.set i ⟨x.p, M', D', s'⟩) := by
  have hil : i < l.length := (List.getElem?_eq_some_iff.1 hi).1
  have get : ∀ (j : Nat) (y : DkE), (l.set i ⟨x.p, M', D', s'⟩)[j]? = some y → (j = i ∧ y = ⟨x.p, M', D', s'⟩) ∨ (j ≠ i ∧ l[j]? = some y) := by
    intro j y hy
    rw [List.getElem?_set] at hy
    split at hy
    · rename_i e
      first | rw [if_pos hil] at hy | skip
      injection hy with hy
      exact .inl ⟨e.symm, hy.symm⟩
    · rename_i e
      exact .inr ⟨fun e2 => e e2.symm, hy⟩
  have hf := h.from_ i x hi
  have hext : Ext w0 w' := hT.1.ext h.ext hf.1
  have hM' : ∀ k, M' k → w0.heap.size ≤ k := fun k hk => by
    rcases hT.2.1 k hk with h1 | h1
    · exact hf.1 k h1
    · exact Nat.le_trans h.ext.le h1
  have hD' : ∀ k, D' k → w0.heap.size ≤ k := fun k hk => by
    rcases hT.2.2 k hk with h1 | h1
    · exact hf.2 k h1
    · exact Nat.le_trans h.ext.le h1
  have hap : ∀ (j : Nat) (y : DkE), l[j]? = some y → j ≠ i → DkAp ⟨x.p, M', D', s'⟩ y ∧ DkAp y ⟨x.p, M', D', s'⟩ := by
    intro j y hy hj
    have ha := h.apart i j x y hi hy (fun e => hj e.symm)
    have hyx := h.each j y hy
    have h1 : ∀ k, M' k → ¬ y.M k ∧ ¬ y.D k := fun k hk => by
      rcases hT.2.1 k hk with h2 | h2
      · exact ha.1 k h2
      · exact ⟨fun h3 => by have := hyx.ltM k h3; omega, fun h3 => by have := hyx.ltD k h3; omega⟩
    have h2 : ∀ k, y.M k → ¬ D' k := fun k hk hd => by
      rcases hT.2.2 k hd with h3 | h3
      · exact ha.2 k hk h3
      · have := hyx.ltM k hk; omega
    exact ⟨⟨h1, h2⟩, ⟨fun k hk => ⟨fun hm => (h1 k hm).1 hk, h2 k hk⟩, fun k hk => (h1 k hk).2⟩⟩
  refine ⟨hext, fun j y hy => ?_, fun j y hy => ?_, fun j k y z hy hz hjk => ?_⟩
  · rcases get j y hy with ⟨rfl, rfl⟩ | ⟨hj, hy2⟩
    · exact hx
    · have ha := h.apart i j x y hi hy2 (fun e => hj e.symm)
      exact (h.each j y hy2).upd hT.1 (fun k hk hm => (ha.1 k hm).1 hk) (fun k hk hm => (ha.1 k hm).2 hk)
  · rcases get j y hy with ⟨rfl, rfl⟩ | ⟨hj, hy2⟩
    · exact ⟨hM', hD'⟩
    · exact h.from_ j y hy2
  · rcases get j y hy with ⟨rfl, rfl⟩ | ⟨hj, hy2⟩
    · rcases get k z hz with ⟨rfl, rfl⟩ | ⟨hk, hz2⟩
      · exact absurd rfl hjk
      · exact (hap k z hz2 hk).1
    · rcases get k z hz with ⟨rfl, rfl⟩ | ⟨hk, hz2⟩
      · exact (hap j y hy2 hj).2
      · exact h.apart j k y z hy2 hz2 hjk
theorem DkL.push {w0 w w' : World} {l : List DkE} (h : DkL w0 w l) (he : Ext w w') {q : Nat} {M D : Nat → Prop} {s : DkS} (hx : DkX w' q M D s) (hM : ∀ k, M k → w.heap.size ≤ k) (hD : ∀ k, D k → w.heap.size ≤ k ∨ ∃ (i : Nat) (x : DkE), l[i]? = some x ∧ x.D k) : DkL w0 w' (l ++ [⟨q, M, D, s⟩]) := by
  have get : ∀ (j : Nat) (y : DkE), (l ++ [⟨q, M, D, s⟩])[j]? = some y → (j = l.length ∧ y = ⟨q, M, D, s⟩) ∨ (j < l.length ∧ l[j]? = some y) := by
    intro j y hy
    rcases Nat.lt_or_ge j l.length with h1 | h1
    · rw [List.getElem?_append_left h1] at hy
      exact .inr ⟨h1, hy⟩
    · rw [List.getElem?_append_right h1] at hy
      rcases hz : j - l.length with _ | m
      · rw [hz] at hy
        simp at hy
        exact .inl ⟨by omega, hy.symm⟩
      · rw [hz] at hy
        simp at hy
  have hap : ∀ (j : Nat) (y : DkE), l[j]? = some y → DkAp ⟨q, M, D, s⟩ y ∧ DkAp y ⟨q, M, D, s⟩ := by
    intro j y hy
    have hyx := h.each j y hy
    have h1 : ∀ k, M k → ¬ y.M k ∧ ¬ y.D k := fun k hk => ⟨fun h3 => by have := hyx.ltM k h3; have := hM k hk; omega, fun h3 => by have := hyx.ltD k h3; have := hM k hk; omega⟩
    have h2 : ∀ k, y.M k → ¬ D k := fun k hk hd => by
      rcases hD k hd with h3 | ⟨i, x, hi, hxd⟩
      · have := hyx.ltM k hk; omega
      · by_cases e : i = j
        · subst e
          rw [hi] at hy
          injection hy with hy
          subst hy
          exact hyx.apart k hxd hk
        · exact (h.apart j i y x hy hi (fun e2 => e e2.symm)).1 k hk |>.2 hxd
    exact ⟨⟨h1, h2⟩, ⟨fun k hk => ⟨fun hm => (h1 k hm).1 hk, h2 k hk⟩, fun k hk => (h1 k hk).2⟩⟩
  refine ⟨h.ext.trans he, fun j y hy => ?_, fun j y hy => ?_, fun j k y z hy hz hjk => ?_⟩
  · rcases get j y hy with ⟨rfl, rfl⟩ | ⟨hj, hy2⟩
    · exact hx
    · exact (h.each j y hy2).ext he
  · rcases get j y hy with ⟨rfl, rfl⟩ | ⟨hj, hy2⟩
    · refine ⟨fun k hk => Nat.le_trans h.ext.le (hM k hk), fun k hk => ?_⟩
      rcases hD k hk with h3 | ⟨i, x, hi, hxd⟩
      · exact Nat.le_trans h.ext.le h3
      · exact (h.from_ i x hi).2 k hxd
    · exact h.from_ j y hy2
  · rcases get j y hy with ⟨rfl, rfl⟩ | ⟨hj, hy2⟩
    · rcases get k z hz with ⟨rfl, rfl⟩ | ⟨hk, hz2⟩
      · exact absurd rfl hjk
      · exact (hap k z hz2).1
    · rcases get k z hz with ⟨rfl, rfl⟩ | ⟨hk, hz2⟩
      · exact (hap j y hy2).2
      · exact h.apart j k y z hy2 hz2 hjk
section
variable {w0 w w' : World} {ps : List (Nat × DkS)} {i p : Nat} {s : DkS}
theorem DkS_.nil (w : World) : DkS_ w w [] := ⟨[], ⟨Ext.refl _, fun i x h => by simp at h, fun i x h => by simp at h, fun i j x y h => by simp at h⟩, rfl⟩
theorem DkS_.ext (h : DkS_ w0 w ps) : Ext w0 w := by obtain ⟨l, h, _⟩ := h; exact h.ext
theorem DkS_.ext_ (h : DkS_ w0 w ps) (he : Ext w w') : DkS_ w0 w' ps := by obtain ⟨l, h, e⟩ := h; exact ⟨l, h.ext_ he, e⟩
theorem DkS_.get (h : DkS_ w0 w ps) (hi : ps[i]? = some (p, s)) : ∃ l x, DkL w0 w l ∧ l.map (fun x => (x.p, x.s)) = ps ∧ l[i]? = some x ∧ x.p = p ∧ x.s = s := by
  obtain ⟨l, h, e⟩ := h
  subst e
  rw [List.getElem?_map] at hi
  obtain ⟨x, hx, e⟩ := Option.map_eq_some_iff.1 hi
  injection e with e1 e2
  exact ⟨l, x, h, rfl, hx, e1, e2⟩
theorem DkS_.x (h : DkS_ w0 w ps) (hi : ps[i]? = some (p, s)) : ∃ M D, DkX w p M D s := by
  obtain ⟨l, x, hl, _, hx, rfl, rfl⟩ := h.get hi
  exact ⟨_, _, hl.each i x hx⟩
theorem DkS_.ok (h : DkS_ w0 w ps) (hi : ps[i]? = some (p, s)) : DkOk s := by
  obtain ⟨M, D, h⟩ := h.x hi
  exact h.ok
/-- A call that turns one disk. -/
theorem DkS_.op {K : Nat} {args : Array Value} {E : Ending} {s' : DkS} (h : DkS_ w0 w ps) (hi : ps[i]? = some (p, s)) (hc : ∀ M D, DkX w p M D s → Calls Try.prog K args w fun e w' => e = E ∧ DkP w p M D w' s') :
    Calls Try.prog K args w fun e w' => e = E ∧ Hid (DkS_ w0 w' (ps.set i (p, s'))) := by
  obtain ⟨l, x, hl, hm, hx, rfl, rfl⟩ := h.get hi
  refine (hc _ _ (hl.each i x hx)).mono ?_
  rintro e w' ⟨rfl, M', D', h1, h2⟩
  refine ⟨rfl, Lib.hid ⟨_, hl.step hx h1 h2, ?_⟩⟩
  rw [← hm, List.map_set]
/-- A call that reads one disk. -/
theorem DkS_.look {K : Nat} {args : Array Value} {Q : Ending → World → Prop} (h : DkS_ w0 w ps) (hi : ps[i]? = some (p, s)) (hc : ∀ M D, DkX w p M D s → Calls Try.prog K args w fun e w' => Q e w' ∧ Ext w w') :
    Calls Try.prog K args w fun e w' => Q e w' ∧ Hid (Ext w w') ∧ Hid (DkS_ w0 w' ps) := by
  obtain ⟨M, D, hx⟩ := h.x hi
  refine (hc M D hx).mono ?_
  rintro e w' ⟨h1, h2⟩
  exact ⟨h1, Lib.hid h2, Lib.hid (h.ext_ h2)⟩
/-- A new disk beside the others. -/
def NewS (w0 w : World) (ps : List (Nat × DkS)) (s : DkS) (E : Value → Ending) (e : Ending) (w' : World) : Prop := ∃ q, e = E (ptr q) ∧ Hid (DkS_ w0 w' (ps ++ [(q, s)])) ∧ Hid (w.heap.size ≤ q)
theorem DkS_.new_ (h : DkS_ w0 w ps) {room : Int} (h0 : 0 ≤ room) (h1 : room ≤ 16777216) : Calls Try.prog 31 #[.int .i64 room] w (NewS w0 w ps (newS room) fun v => .returned (.tuple #[v, .int .i64 0])) := by
  obtain ⟨l, hl, hm⟩ := h
  refine (New_calls w room h0 h1).mono ?_
  rintro e w' ⟨q, M, D, rfl, hx, he, hM, hD⟩
  exact ⟨q, rfl, Lib.hid ⟨_, hl.push he hx hM (fun k hk => .inl (hD k hk)), by rw [List.map_append, hm]; rfl⟩, Lib.hid (by obtain ⟨b1, b2, av, hy⟩ := hx; exact hM q (hy.inM q (.inl rfl)))⟩
theorem DkS_.twin (h : DkS_ w0 w ps) (hi : ps[i]? = some (p, s)) (hc : s.acts.length ≤ 1000000) : Calls Try.prog 27 #[ptr p] w (NewS w0 w ps s .returned) := by
  obtain ⟨l, x, hl, hm, hx, rfl, rfl⟩ := h.get hi
  refine (Twin_calls w x.p _ _ x.s (hl.each i x hx) hc).mono ?_
  rintro e w' ⟨q, M2, D2, rfl, h1, he, hM, hD⟩
  refine ⟨q, rfl, Lib.hid ⟨_, hl.push he h1 hM (fun k hk => ?_), by rw [List.map_append, hm]; rfl⟩, Lib.hid (by obtain ⟨b1, b2, av, hy⟩ := h1; exact hM q (hy.inM q (.inl rfl)))⟩
  rcases hD k hk with h2 | h2
  · exact .inr ⟨i, x, hx, h2⟩
  · exact .inl h2
end
/-! ### how many acts there are -/
theorem hit_len (s : DkS) : (hitS s).acts.length = s.acts.length := by rw [hit_acts]
theorem push_len (s : DkS) (x : ActS) : (pushS s x).2.acts.length ≤ s.acts.length + 1 := by
  unfold pushS
  split
  · simp [fallS]
  · rw [hit_acts]
    simp [putA]
theorem does_len (s : DkS) (d : DoS) : (doesS s d).2.acts.length ≤ s.acts.length + 1 := by
  unfold doesS doesO
  split
  · unfold trimS; split; exact push_len _ _; simp
  split
  · unfold moveS; split; exact push_len _ _; simp
  split
  · unfold dropS; split; exact push_len _ _; simp
  split
  · unfold syncS; split
    · simp
    · split
      · simp [fallS]
      · simp
  split
  · unfold armS; split <;> simp
  split
  · unfold crashS; split <;> simp [fallS]
  split
  · simp [startS]
  · unfold writeS; split; exact push_len _ _; simp
/-- A disk behind calls. -/
def foldD (s : DkS) (l : List DoS) : DkS := l.foldl (fun s d => (doesS s d).2) s
theorem foldD_len (l : List DoS) : ∀ s : DkS, (foldD s l).acts.length ≤ s.acts.length + l.length := by
  induction l with
  | nil => intro s; simp [foldD]
  | cons d l ih =>
    intro s
    have h1 := ih (doesS s d).2
    have h2 := does_len s d
    show (foldD (doesS s d).2 l).acts.length ≤ _
    rw [List.length_cons]
    omega
theorem foldD_snoc (s : DkS) (l : List DoS) (k : Nat) (h : k < l.length) : foldD s (l.take (k + 1)) = (doesS (foldD s (l.take k)) l[k]).2 := by
  unfold foldD
  rw [List.take_succ_eq_append_getElem h, List.foldl_append]
  rfl
def room20 (r : Int) : Int := wrap64 ((IntKind.u64.wrap r).tmod 1048576)
theorem room20_le (r : Int) : 0 ≤ room20 r ∧ room20 r < 1048576 := by
  unfold room20
  have hq : 0 ≤ IntKind.u64.wrap r := by rw [IntKind.wrap_u64]; omega
  rw [Int.tmod_eq_emod_of_nonneg hq]
  have h3 := Int.emod_nonneg (IntKind.u64.wrap r) (show (1048576 : Int) ≠ 0 by omega)
  have h4 := Int.emod_lt_of_pos (IntKind.u64.wrap r) (show (0 : Int) < 1048576 by omega)
  generalize (IntKind.u64.wrap r) % 1048576 = x at h3 h4
  rw [IntWalk.wrap64_in _ (by omega)]
  omega
def madeS (room : Int) (l : List DoS) : DkS := foldD (newS (room20 room)) l
end Go.Proofs.Ytjjhmknlhfijjaa
set_option linter.unusedVariables false
set_option linter.unusedSimpArgs false
namespace Go.Proofs.Ytjjhmknlhfijjaa
open Go.RowKit

theorem set_last {α : Type} (ps : List α) (a b : α) : (ps ++ [a]).set ps.length b = ps ++ [b] := by simp
theorem get_last {α : Type} (ps : List α) (a : α) : (ps ++ [a])[ps.length]? = some a := by simp
/-- A disk that was made by calls, behind others. -/
def MadeP (w0 : World) (ps : List (Nat × DkS)) (room : Int) (l : List DoS) (e : Ending) (w' : World) : Prop :=
  ∃ q s, e = .returned (.tuple #[ptr q, .bool (shortF l)]) ∧ Hid (DkS_ w0 w' (ps ++ [(q, s)])) ∧ Hid (shortF l = true → s = madeS room l)
set_option maxRecDepth 100000 in
set_option maxHeartbeats 4000000 in
theorem made_calls (w0 w : World) (ps : List (Nat × DkS)) (room : Int) (S : Nat → Prop) (v : Value) (l : List DoS) (h : DkS_ w0 w ps) (hr : Rs kDDo w0 S v l) :
    Calls Try.prog 13 #[.int .i64 room, v] w (MadeP w0 ps room l) := by
  have HH := Lib.hid h
  have HV := Lib.hid hr
  obtain ⟨A, c, rfl, hl, hc, hz, hrow⟩ := hr
  have HR := Lib.hid hrow
  clear hrow h
  have hrm : wrap64 ((IntKind.u64.wrap room).tmod 1048576) = room20 room := rfl
  have HQ := Lib.hid (room20_le room)
  go_enter Try.func13, Try.ntmps13
  go_wp2_with fail
  rw [hrm]
  clear hrm
  refine (HH.out.new_ HQ.out.1 (by have := HQ.out.2; omega)).mono ?_
  rintro e w1 ⟨q, rfl, HD, HLQ⟩
  unfold ptr
  have HSH := Lib.hid (short_calls w1 S _ l (HV.out.ext HD.out.ext))
  by_cases hs : shortF l = true
  · have HS := Lib.hid hs
    have HL := Lib.hid (short_len hs)
    clear hs
    go_wp2_with fail
    refine HSH.out.mono ?_
    rw [HS.out]
    rintro e w' ⟨rfl, rfl⟩
    go_wp2_with fail
    go_loopw [28] (fun i wr => ∃ k : Nat, k ≤ l.length ∧ i = .int .i64 k ∧ Hid (DkS_ w0 wr (ps ++ [(q, foldD (newS (room20 room)) (l.take k))]))) (fun i _ => l.length - (intOf i).toNat)
    case atStart => exact ⟨0, Nat.zero_le _, rfl, HD⟩
    case round =>
      clear HD
      obtain ⟨k, hk, rfl, HDk⟩ := hrel
      by_cases hlt : k < l.length
      · obtain ⟨ad, Ab, cb, rfl, hbl, hi, hb, x0, x1, x2, x3, x4, x5, x6, x7⟩ := (HR.out.keep (w' := wr) fun b _ hl => HDk.out.ext.block b hl).ddo hlt
        have HI := Lib.hid hi
        have HB := Lib.hid hb
        have HSN := Lib.hid (foldD_snoc (newS (room20 room)) l k hlt)
        have HLN := Lib.hid (show (foldD (newS (room20 room)) (l.take k)).acts.length ≤ 1000000 by
          have h1 := foldD_len (l.take k) (newS (room20 room))
          rw [List.length_take] at h1
          have h2 := HL.out
          have h3 : (newS (room20 room)).acts.length = 0 := rfl
          omega)
        generalize l[k] = d at *
        clear hi hb
        go_upto_region 7 with fail
        obtain ⟨w2, hw2⟩ : ∃ w2, w2 = wr.alloc (.cells (doC d (.slice Ab d.b.length cb)) 43) := ⟨_, rfl⟩
        obtain ⟨g, hg⟩ : ∃ g, g = wr.heap.size := ⟨_, rfl⟩
        have hx2 : Ext wr w2 := by rw [hw2]; exact (Ext.refl _).alloc _
        have HD2 := Lib.hid (HDk.out.ext_ hx2)
        have HB2 := Lib.hid (HB.out.ext hx2)
        have HG := Lib.hid (show w2.heap[g]? = some (.cells (doC d (.slice Ab d.b.length cb)) 43 (0, 0)) by rw [hw2]; exact heap_new wr g hg.symm _)
        unfold doC at hw2
        rw [← hw2, ← hg]
        clear hw2 hg hx2 x0 x1 x2 x3 x4 x5 x6 x7
        obtain ⟨x0, x1, x2, x3, x4, x5, x6, x7⟩ := do_cells HG.out
        go_wp2_with fail
        refine (HD2.out.op (get_last _ _) (fun M D hX => does_calls w2 q M D S _ d _ hX HI.out HB2.out HLN.out)).mono ?_
        rintro e w3 ⟨rfl, HD3⟩
        rw [set_last, ← HSN.out] at HD3
        go_wp2_with fail
        go_roundw
        case rel => exact ⟨k + 1, by omega, by go_num, HD3⟩
        case measure => simp [intOf]; omega
      · obtain rfl : k = l.length := by omega
        rw [List.take_length] at HDk
        clear hlt
        go_wp2_with fail
        go_ret2
        exact ⟨q, _, by rw [HS.out]; rfl, HDk, Lib.hid fun _ => rfl⟩
  · have HS := Lib.hid (show shortF l = false by simpa using hs)
    clear hs
    go_wp2_with fail
    refine HSH.out.mono ?_
    rw [HS.out]
    rintro e w' ⟨rfl, rfl⟩
    go_wp2_with fail
    go_ret2
    exact ⟨q, _, by rw [HS.out]; rfl, HD, Lib.hid fun h => by rw [HS.out] at h; cases h⟩
end Go.Proofs.Ytjjhmknlhfijjaa
set_option linter.unusedVariables false
set_option linter.unusedSimpArgs false
namespace Go.Proofs.Ytjjhmknlhfijjaa
open Go.RowKit

theorem Row.str {w : World} {S : Nat → Prop} {A : Option Addr} {xs : List Nam} (h : Row kStr w S A xs) {j : Nat} (hj : j < xs.length) : ∃ ad, A = some ad ∧ w.cell? (ad.add j) = some (.string ⟨xs[j].toArray⟩) ∧ xs[j].length ≤ 9223372036854775807 := by
  obtain ⟨ad, cs, rfl, _, _, ⟨rfl, hi⟩, hc⟩ := h.get hj
  exact ⟨ad, rfl, by have := hc 0 _ rfl; simpa [kStr, Kd.scalar] using this, hi⟩
set_option maxHeartbeats 1000000 in
theorem EqualS_same (w : World) (S T : Nat → Prop) (v u : Value) (xs : List Nam) (h1 : Rs kStr w S v xs) (h2 : Rs kStr w T u xs) :
    Calls Try.prog 69 #[v, u] w fun e w' => e = .returned (.bool true) ∧ Ext w w' := by
  obtain ⟨A, c, rfl, hl, hc, hz, hrow⟩ := h1
  obtain ⟨A2, c2, rfl, hl2, hc2, hz2, hrow2⟩ := h2
  have HR := Lib.hid hrow
  have HR2 := Lib.hid hrow2
  clear hrow hrow2
  go_enter Try.func69, Try.ntmps69
  go_wp2
  go_loopw [13] (fun i wr => ∃ k m : Nat, k ≤ xs.length ∧ i = .int .i64 k ∧ Hid (wr = w.drewN m)) (fun i _ => xs.length - (intOf i).toNat)
  case atStart => exact ⟨0, 0, Nat.zero_le _, rfl, Lib.hid rfl⟩
  case round =>
    obtain ⟨k, m, hk, rfl, HW⟩ := hrel
    have hw := HW.out
    subst hw
    by_cases hlt : k < xs.length
    · obtain ⟨ad, rfl, hcell, _⟩ := HR.out.str hlt
      obtain ⟨ad2, rfl, hcell2, _⟩ := HR2.out.str hlt
      have hki : (k : Int) < (xs.length : Int) := by omega
      go_wp2
      go_quiet (fail)
      go_wp2
      go_roundw
      case rel => exact ⟨k + 1, _, by omega, by go_num, Lib.hid rfl⟩
      case measure => simp [intOf]; omega
    · obtain rfl : k = xs.length := by omega
      clear hlt
      go_wp2
      go_ret
      exact ⟨rfl, (Ext.refl w).drewN _⟩
theorem seen_list {s t : DkS} (ho : s.off = t.off) (hs : s.seen = t.seen) : listF t = listF s := by unfold listF; rw [ho, hs]
theorem seen_find {s t : DkS} (ho : s.off = t.off) (hs : s.seen = t.seen) (n : Nam) : findF t n = findF s n := by unfold findF; rw [ho, hs]
theorem seen_read {s t : DkS} (ho : s.off = t.off) (hs : s.seen = t.seen) (n : Nam) : readF t n = readF s n := by unfold readF; rw [seen_find ho hs, hs]
set_option maxRecDepth 100000 in
set_option maxHeartbeats 4000000 in
theorem same_calls (w0 w : World) (ps : List (Nat × DkS)) (i j p q : Nat) (s t : DkS) (h : DkS_ w0 w ps) (hi : ps[i]? = some (p, s)) (hj : ps[j]? = some (q, t)) (ho : s.off = t.off) (hs : s.seen = t.seen) :
    Calls Try.prog 44 #[ptr p, ptr q] w fun e w' => e = .returned (.bool true) ∧ Hid (DkS_ w0 w' ps) := by
  have HH := Lib.hid h
  have HI := Lib.hid hi
  have HJ := Lib.hid hj
  have HL := Lib.hid (seen_list ho hs)
  have HF := Lib.hid (fun n => seen_find ho hs n)
  have HB := Lib.hid (fun n => seen_read ho hs n)
  clear h hi hj ho hs
  unfold ptr
  go_enter Try.func44, Try.ntmps44
  go_wp2_with fail
  refine (HH.out.look (Q := fun e w' => ∃ v, e = .returned v ∧ Ow kStr 9 w' w.heap.size (w.heap.size ≤ ·) v (listF s)) HI.out fun M D hx => (List_calls w p M D s hx).mono fun e w' ⟨v, h1, h2, h3⟩ => ⟨⟨v, h1, h2⟩, h3⟩).mono ?_
  rintro e w1 ⟨⟨v, rfl, ho1⟩, HX1, HD1⟩
  have HO1 := Lib.hid ho1.rs
  clear ho1
  obtain ⟨A1, c1, rfl, -, -, hlz, -⟩ := HO1.out
  go_wp2_with fail
  refine (HD1.out.look (Q := fun e w' => ∃ v, e = .returned v ∧ Ow kStr 9 w' w1.heap.size (w1.heap.size ≤ ·) v (listF t)) HJ.out fun M D hx => (List_calls w1 q M D t hx).mono fun e w' ⟨v, h1, h2, h3⟩ => ⟨⟨v, h1, h2⟩, h3⟩).mono ?_
  rintro e w2 ⟨⟨v2, rfl, ho2⟩, HX2, HD2⟩
  rw [HL.out] at ho2
  have HO2 := Lib.hid ho2.rs
  have HO3 := Lib.hid (HO1.out.ext HX2.out)
  clear ho2
  go_wp2_with fail
  refine (EqualS_same w2 _ _ _ _ _ HO3.out HO2.out).mono ?_
  rintro e w3 ⟨rfl, hx3⟩
  have HD3 := Lib.hid (HD2.out.ext_ hx3)
  have HR := Lib.hid (HO3.out.ext hx3).shape.2.2.2.2
  clear hx3 HO1 HO2 HO3 HD1 HD2 HX1 HX2
  go_wp2_with fail
  go_loopw [21] (fun i wr => ∃ k : Nat, k ≤ (listF s).length ∧ i = .int .i64 k ∧ Hid (DkS_ w0 wr ps) ∧ Hid (Ext w3 wr)) (fun i _ => (listF s).length - (intOf i).toNat)
  case atStart => exact ⟨0, Nat.zero_le _, rfl, HD3, Lib.hid (Ext.refl _)⟩
  case round =>
    clear HD3
    obtain ⟨k, hk, rfl, HDk, HXk⟩ := hrel
    by_cases hlt : k < (listF s).length
    · obtain ⟨ad, rfl, hcell, hn⟩ := (HR.out.keep (w' := wr) fun b _ hl => HXk.out.block b hl).str hlt
      have HN := Lib.hid hn
      generalize (listF s)[k] = n at *
      clear hn
      go_wp2_with fail
      refine (HDk.out.look (Q := fun e w' => ∃ v, e = .returned (.tuple #[v, .int .i64 (findF s n)]) ∧ Rs kByte w' (wr.heap.size ≤ ·) v (readF s n)) HI.out fun M D hx => (Read_calls wr p M D s n hx HN.out).mono fun e w' ⟨v, h1, h2, h3⟩ => ⟨⟨v, h1, h2.rs⟩, h3⟩).mono ?_
      rintro e w4 ⟨⟨v4, rfl, hr4⟩, HX4, HD4⟩
      have HR4 := Lib.hid hr4
      obtain ⟨A4, c4, rfl, -, -, -, -⟩ := hr4
      go_wp2_with fail
      refine (HD4.out.look (Q := fun e w' => ∃ v, e = .returned (.tuple #[v, .int .i64 (findF t n)]) ∧ Rs kByte w' (w4.heap.size ≤ ·) v (readF t n)) HJ.out fun M D hx => (Read_calls w4 q M D t n hx HN.out).mono fun e w' ⟨v, h1, h2, h3⟩ => ⟨⟨v, h1, h2.rs⟩, h3⟩).mono ?_
      rintro e w5 ⟨⟨v5, rfl, hr5⟩, HX5, HD5⟩
      rw [HF.out n]
      rw [HB.out n] at hr5
      have HR5 := Lib.hid hr5
      obtain ⟨A5, c5, rfl, -, -, -, -⟩ := hr5
      have HR6 := Lib.hid (HR4.out.ext HX5.out)
      have HXf := Lib.hid ((HXk.out.trans HX4.out).trans HX5.out)
      have hne : (findF s n != findF s n) = false := by simp
      clear HR4 HX4 HX5 HXk
      go_wp2_with fail
      refine (Equal_same w5 _ _ _ _ _ HR6.out HR5.out).mono ?_
      rintro e w6 ⟨rfl, rfl⟩
      go_wp2_with fail
      go_roundw
      case rel => exact ⟨k + 1, by omega, by go_num, HD5, HXf⟩
      case measure => simp [intOf]; omega
    · obtain rfl : k = (listF s).length := by omega
      clear hlt
      go_wp2_with fail
      go_ret
      exact ⟨rfl, HDk⟩
end Go.Proofs.Ytjjhmknlhfijjaa
set_option linter.unusedVariables false
set_option linter.unusedSimpArgs false
namespace Go.Proofs.Ytjjhmknlhfijjaa
open Go.RowKit

def k0 : DkS := newS 100
def k1 : DkS := (writeS k0 [97] 0 [120, 121]).2
def k2 : DkS := (syncS k1).2
def k3 : DkS := (writeS k2 [97] 2 [122, 119]).2
def k4 : DkS := (crashS k3 1 1).2
def k5 : DkS := startS k4
instance (n : Int) : Decidable (I64 n) := by unfold I64; infer_instance
theorem e1 : (writeS k0 [97] 0 [120, 121]).1 = 0 := by decide
theorem e2 : (syncS k1).1 = 0 := by decide
theorem e3 : (writeS k2 [97] 2 [122, 119]).1 = 0 := by decide
theorem e4 : (crashS k3 1 1).1 = 0 := by decide
theorem e5 : findF k5 [97] = 0 := by decide
theorem e6 : readF k5 [97] = [120, 121, 122] := by decide
theorem e7 : k0.acts.length ≤ 1000000 := by decide
theorem e8 : k2.acts.length ≤ 1000000 := by decide
theorem Rs.two_bytes {w : World} {g : Nat} {a b : UInt8} {t : TypeId} {fz : Nat × Nat} (hb : w.heap[g]? = some (.cells #[.int .u8 (a.toNat : Int), .int .u8 (b.toNat : Int)] t fz)) : Rs kByte w (fun _ => True) (.slice (some ⟨g, 0, none⟩) 2 2) [a, b] :=
  ⟨_, 2, rfl, by simp, by omega, by simp, Row.bytes_of hb trivial fun j x hj => by
    match j, hj with
    | 0, hj => simp at hj; subst hj; rfl
    | 1, hj => simp at hj; subst hj; rfl⟩
set_option maxRecDepth 100000 in
set_option maxHeartbeats 4000000 in
theorem awake_calls (w : World) : Calls Try.prog 14 #[] w fun e w' => e = .returned (.bool true) ∧ Ext w w' := by
  have kc := fun (W : World) (C : Array Value) (n c : Nat) => Lib.run_convert_bytes_const (P := Try.prog) W 23 5 C n c Try.underlying23 Try.underlying5
  go_enter Try.func14, Try.ntmps14
  go_wp2_with fail
  refine ((DkS_.nil w).new_ (room := 100) (by omega) (by omega)).mono ?_
  rintro e w1 ⟨p, rfl, HD1, -⟩
  unfold ptr
  simp only [List.nil_append] at HD1
  obtain ⟨W, hW⟩ : ∃ W, W = w1.alloc (.cells #[.int .u8 120, .int .u8 121] 5 (2, 3)) := ⟨_, rfl⟩
  have HDa := Lib.hid (show DkS_ w W [(p, k0)] by rw [hW]; exact HD1.out.ext_ ((Ext.refl w1).alloc _))
  have HRa := Lib.hid (show Rs kByte W (fun _ => True) (.slice (some ⟨w1.heap.size, 0, none⟩) 2 2) [120, 121] by rw [hW]; exact Rs.two_bytes (heap_alloc_new _ _))
  go_wp2_with fail
  change Calls _ _ _ (w1.alloc (.cells #[.int .u8 120, .int .u8 121] 5 (2, 3))) _
  rw [← hW]
  clear hW
  refine (HDa.out.op (i := 0) rfl (fun M D hX => Write_calls W p M D k0 [97] 0 _ _ [120, 121] hX (by decide) (by decide) HRa.out e7)).mono ?_
  rw [e1]
  rintro e w2 ⟨rfl, HD2⟩
  change Hid (DkS_ w w2 [(p, k1)]) at HD2
  go_wp2_with fail
  refine (HD2.out.op (i := 0) rfl (fun M D hX => Sync_calls w2 p M D k1 hX)).mono ?_
  rw [e2]
  rintro e w3 ⟨rfl, HD3⟩
  change Hid (DkS_ w w3 [(p, k2)]) at HD3
  obtain ⟨W, hW⟩ : ∃ W, W = w3.alloc (.cells #[.int .u8 122, .int .u8 119] 5 (2, 3)) := ⟨_, rfl⟩
  have HDb := Lib.hid (show DkS_ w W [(p, k2)] by rw [hW]; exact HD3.out.ext_ ((Ext.refl w3).alloc _))
  have HRb := Lib.hid (show Rs kByte W (fun _ => True) (.slice (some ⟨w3.heap.size, 0, none⟩) 2 2) [122, 119] by rw [hW]; exact Rs.two_bytes (heap_alloc_new _ _))
  go_wp2_with fail
  change Calls _ _ _ (w3.alloc (.cells #[.int .u8 122, .int .u8 119] 5 (2, 3))) _
  rw [← hW]
  clear hW
  refine (HDb.out.op (i := 0) rfl (fun M D hX => Write_calls W p M D k2 [97] 2 _ _ [122, 119] hX (by decide) (by decide) HRb.out e8)).mono ?_
  rw [e3]
  rintro e w4 ⟨rfl, HD4⟩
  change Hid (DkS_ w w4 [(p, k3)]) at HD4
  go_wp2_with fail
  refine (HD4.out.op (i := 0) rfl (fun M D hX => Crash_calls w4 p M D k3 1 1 hX (by decide) (by decide))).mono ?_
  rw [e4]
  rintro e w5 ⟨rfl, HD5⟩
  change Hid (DkS_ w w5 [(p, k4)]) at HD5
  go_wp2_with fail
  refine (HD5.out.op (i := 0) rfl (fun M D hX => Start_calls w5 p M D k4 hX)).mono ?_
  rintro e w6 ⟨rfl, HD6⟩
  change Hid (DkS_ w w6 [(p, k5)]) at HD6
  go_wp2_with fail
  refine (HD6.out.look (i := 0) (Q := fun e w' => ∃ v, e = .returned (.tuple #[v, .int .i64 0]) ∧ Rs kByte w' (w6.heap.size ≤ ·) v [120, 121, 122]) rfl fun M D hx => (Read_calls w6 p M D k5 [97] hx (by decide)).mono fun e w' ⟨v, h1, h2, h3⟩ => ⟨⟨v, by rw [h1, e5], by rw [← e6]; exact h2.rs⟩, h3⟩).mono ?_
  rintro e w7 ⟨⟨v, rfl, hr⟩, HX7, HD7⟩
  have hcv := hr.to_string (P := Try.prog) Try.underlying23 tByte tString
  obtain ⟨A, c, rfl, -, -, -, -⟩ := hr
  have hcv2 : (convert 23 9 (.slice A 3 c)).run Try.prog w7 = .ok (.string ⟨#[120, 121, 122]⟩) w7 := hcv
  clear hcv
  go_wp2_with fail
  go_ret
  exact ⟨rfl, HD7.out.ext⟩
end Go.Proofs.Ytjjhmknlhfijjaa
set_option linter.unusedVariables false
set_option linter.unusedSimpArgs false
namespace Go.Proofs.Ytjjhmknlhfijjaa
open Go.RowKit

set_option maxRecDepth 100000 in
set_option maxHeartbeats 8000000 in
theorem DiskNobody_walk (w : World) (cs : Array Value) (d : DoS) (hm : kDDo.K w (· < w.heap.size) d cs.toList) :
    Calls Try.prog 6 #[.agg cs] w fun e w' => e = .returned (.bool true) ∧ Ext w w' := by
  obtain ⟨vb, hcs, hd, hv⟩ := kDDo_iff.1 hm
  obtain rfl : cs = doC d vb := by rw [← Array.toList_inj]; exact hcs
  obtain ⟨Ab, cb, e, -⟩ := id hv
  subst e
  have HD := Lib.hid hd
  have HV := Lib.hid hv
  clear hm hcs hd hv
  unfold doC
  go_enter Try.func6, Try.ntmps6
  go_wp2_with fail
  obtain ⟨W, hW⟩ : ∃ W, W = ((w.alloc (.cells (doC d (.slice Ab d.b.length cb)) 43)).alloc (.cells noC 56)).alloc (.cells #[.pointer none, .pointer (some ⟨w.heap.size + 1, 0, none⟩)] 24) := ⟨_, rfl⟩
  have HX := Lib.hid (show Ext w W by rw [hW]; exact (((Ext.refl w).alloc _).alloc _).alloc _)
  have HB0 := Lib.hid (show W.heap[w.heap.size]? = some (.cells (doC d (.slice Ab d.b.length cb)) 43 (0, 0)) by rw [hW]; exact blk_ext (blk_ext (heap_alloc_new _ _) ((Ext.refl _).alloc _)) ((Ext.refl _).alloc _))
  have HB1 := Lib.hid (show W.heap[w.heap.size + 1]? = some (.cells noC 56 (0, 0)) by rw [hW]; exact blk_ext (heap_new _ _ (by simp) _) ((Ext.refl _).alloc _))
  have HB2 := Lib.hid (show W.heap[w.heap.size + 2]? = some (.cells #[.pointer none, .pointer (some ⟨w.heap.size + 1, 0, none⟩)] 24 (0, 0)) by rw [hW]; exact heap_new _ _ (by simp) _)
  have HVW := Lib.hid (HV.out.ext HX.out)
  unfold doC noC at hW
  rw [← hW]
  obtain ⟨g, hg⟩ : ∃ g, g = w.heap.size := ⟨_, rfl⟩
  rw [← hg] at HB0 HB1 HB2 ⊢
  clear hW hg
  go_loopw [11] (fun i wr => ∃ k : Nat, k ≤ 2 ∧ i = .int .i64 k ∧ Hid (Ext W wr)) (fun i _ => 2 - (intOf i).toNat)
  case atStart => exact ⟨0, by omega, rfl, Lib.hid (Ext.refl _)⟩
  case round =>
    obtain ⟨k, hk, rfl, HXr⟩ := hrel
    obtain ⟨x0, x1, x2, x3, x4, x5, x6, x7⟩ := do_cells (blk_ext HB0.out HXr.out)
    have HVr := Lib.hid (HVW.out.ext HXr.out)
    have y0 : wr.cell? ⟨g + 2, 0, none⟩ = some (.pointer none) := cell_blk (blk_ext HB2.out HXr.out) 0
    have y1 : wr.cell? ⟨g + 2, 1, none⟩ = some (.pointer (some ⟨g + 1, 0, none⟩)) := cell_blk (blk_ext HB2.out HXr.out) 1
    have HN0 := Lib.hid (show NoV wr (.pointer none) from .inl rfl)
    have HN1 := Lib.hid (show NoV wr (.pointer (some ⟨g + 1, 0, none⟩)) from .inr ⟨g + 1, rfl, blk_ext HB1.out HXr.out⟩)
    rcases (show k = 0 ∨ k = 1 ∨ k = 2 by omega) with rfl | rfl | rfl
    · go_wp2_with fail
      refine (Read_no wr (.pointer none) _ HN0.out).mono ?_
      rintro e w' ⟨rfl, rfl⟩
      go_wp2_with fail
      refine (does_no wr (.pointer none) _ d _ HN0.out HD.out HVr.out).mono ?_
      rintro e w2 ⟨rfl, hx2⟩
      have HX2 := Lib.hid hx2
      clear hx2
      have HN2 := Lib.hid (HN0.out.ext HX2.out)
      go_wp2_with fail
      refine (Clone_no w2 (.pointer none) HN2.out).mono ?_
      rintro e w3 ⟨rfl, hx3⟩
      have HX3 := Lib.hid (HX2.out.trans hx3)
      have HN3 := Lib.hid (HN2.out.ext hx3)
      clear hx3
      go_wp2_with fail
      refine (List_no w3 (.pointer none) HN3.out).mono ?_
      rintro e w' ⟨rfl, rfl⟩
      go_wp2_with fail
      refine (Pending_no w3 (.pointer none) HN3.out).mono ?_
      rintro e w' ⟨rfl, rfl⟩
      go_wp2_with fail
      refine (Used_no w3 (.pointer none) HN3.out).mono ?_
      rintro e w' ⟨rfl, rfl⟩
      go_wp2_with fail
      go_roundw
      case rel => exact ⟨1, by omega, rfl, Lib.hid (HXr.out.trans HX3.out)⟩
      case measure => simp [intOf]
    · go_wp2_with fail
      refine (Read_no wr (.pointer (some ⟨g + 1, 0, none⟩)) _ HN1.out).mono ?_
      rintro e w' ⟨rfl, rfl⟩
      go_wp2_with fail
      refine (does_no wr (.pointer (some ⟨g + 1, 0, none⟩)) _ d _ HN1.out HD.out HVr.out).mono ?_
      rintro e w2 ⟨rfl, hx2⟩
      have HX2 := Lib.hid hx2
      clear hx2
      have HN2 := Lib.hid (HN1.out.ext HX2.out)
      go_wp2_with fail
      refine (Clone_no w2 (.pointer (some ⟨g + 1, 0, none⟩)) HN2.out).mono ?_
      rintro e w3 ⟨rfl, hx3⟩
      have HX3 := Lib.hid (HX2.out.trans hx3)
      have HN3 := Lib.hid (HN2.out.ext hx3)
      clear hx3
      go_wp2_with fail
      refine (List_no w3 (.pointer (some ⟨g + 1, 0, none⟩)) HN3.out).mono ?_
      rintro e w' ⟨rfl, rfl⟩
      go_wp2_with fail
      refine (Pending_no w3 (.pointer (some ⟨g + 1, 0, none⟩)) HN3.out).mono ?_
      rintro e w' ⟨rfl, rfl⟩
      go_wp2_with fail
      refine (Used_no w3 (.pointer (some ⟨g + 1, 0, none⟩)) HN3.out).mono ?_
      rintro e w' ⟨rfl, rfl⟩
      go_wp2_with fail
      go_roundw
      case rel => exact ⟨2, by omega, rfl, Lib.hid (HXr.out.trans HX3.out)⟩
      case measure => simp [intOf]
    · go_wp2_with fail
      refine (awake_calls wr).mono ?_
      rintro e w2 ⟨rfl, hx2⟩
      have HX2 := Lib.hid ((HX.out.trans HXr.out).trans hx2)
      clear hx2
      go_wp2_with fail
      go_ret
      exact ⟨rfl, HX2.out⟩
end Go.Proofs.Ytjjhmknlhfijjaa
