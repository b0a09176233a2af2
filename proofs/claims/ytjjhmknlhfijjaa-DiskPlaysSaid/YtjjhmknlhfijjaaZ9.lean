/-
  Texts of this claim, put together: DskCalm, DskKeep, DiskMoves.
-/
import Derived.Test.YtjjhmknlhfijjaaZ8
set_option linter.unusedVariables false
set_option linter.unusedSimpArgs false
namespace Go.Proofs.Ytjjhmknlhfijjaa
open Go.RowKit

def calmS (s : DkS) : DkS := ⟨false, 0, 0, 0, s.room, s.last, s.acts⟩
theorem calm_code {s : DkS} : (armS (startS s) 0 0 0).1 = 0 := rfl
theorem i0 : I64 0 := by constructor <;> omega
theorem calm_arm (s : DkS) : (armS (startS s) 0 0 0).2 = calmS s := rfl
theorem calm_used (s : DkS) : (calmS s).used = s.used := rfl
theorem calm_seen (s : DkS) : (calmS s).seen = s.seen := rfl
theorem push_room (s : DkS) (x : ActS) : (pushS s x).2.room = s.room := by
  unfold pushS
  split
  · rfl
  · rw [hit_room]; rfl
theorem does_room (s : DkS) (d : DoS) : (doesS s d).2.room = s.room := by
  unfold doesS doesO
  split
  · unfold trimS; split; exact push_room _ _; rfl
  split
  · unfold moveS; split; exact push_room _ _; rfl
  split
  · unfold dropS; split; exact push_room _ _; rfl
  split
  · unfold syncS; split
    · rfl
    · split
      · rfl
      · show (hitS s).room = s.room
        exact hit_room s
  split
  · unfold armS; split <;> rfl
  split
  · unfold crashS; split <;> rfl
  split
  · rfl
  · unfold writeS; split; exact push_room _ _; rfl
theorem foldD_room (l : List DoS) : ∀ s : DkS, (foldD s l).room = s.room := by
  induction l with
  | nil => intro s; rfl
  | cons d l ih => intro s; exact (ih (doesS s d).2).trans (does_room s d)
theorem madeS_room (room : Int) (l : List DoS) : (madeS room l).room < 1048576 := by
  unfold madeS
  rw [foldD_room]
  exact (room20_le room).2
/-- On and not armed. -/
structure Calm (s : DkS) : Prop where
  off : s.off = false
  left : s.left = 0
theorem calm_is (s : DkS) : Calm (calmS s) := ⟨rfl, rfl⟩
section
variable {s : DkS}
theorem calm_push (h : Calm s) (x : ActS) : pushS s x = (0, putA s x) := by
  unfold pushS hitB hitS
  have h1 : (putA s x).left = 0 := h.left
  rw [h.left, if_neg (by decide), h1, if_pos rfl]
theorem calm_put (h : Calm s) (x : ActS) : Calm (putA s x) := ⟨h.off, h.left⟩
theorem put_seen (s : DkS) (x : ActS) : (putA s x).seen = doA s.seen x.k x.data := runA_snoc _ _ _
theorem calm_find (h : Calm s) (n : Nam) : findF s n = if mayF n = true then (if (getK s.seen n).isSome then 0 else 21) else 20 := by
  unfold findF
  rw [h.off]
  rfl
theorem calm_list (h : Calm s) : listF s = s.seen.map (·.1) := by unfold listF; rw [h.off]; rfl
theorem calm_len (h : Calm s) : (listF s).length = s.seen.length := by rw [calm_list h, List.length_map]
end
theorem bytes_some {L : KL Nam} {n x : Nam} (h : getK L n = some x) : bytesK L n = x := by unfold bytesK; rw [h]; rfl
theorem str_of (s : ByteArray) : ∃ n : Nam, s = ⟨n.toArray⟩ := ⟨s.data.toList, by simp⟩
end Go.Proofs.Ytjjhmknlhfijjaa
set_option linter.unusedVariables false
set_option linter.unusedSimpArgs false
namespace Go.Proofs.Ytjjhmknlhfijjaa
open Go.RowKit

/-- The disks at ps; blocks of K are none that a disk turns. -/
def DkK (w0 w : World) (ps : List (Nat × DkS)) (K : Nat → Prop) : Prop :=
  ∃ l, DkL w0 w l ∧ l.map (fun x => (x.p, x.s)) = ps ∧ (∀ (i : Nat) (x : DkE), l[i]? = some x → ∀ k, x.M k → ¬ K k) ∧ ∀ k, K k → k < w.heap.size
section
variable {w0 w w' : World} {ps : List (Nat × DkS)} {i p : Nat} {s : DkS} {K : Nat → Prop}
theorem DkS_.k (h : DkS_ w0 w ps) : DkK w0 w ps (fun _ => False) := by
  obtain ⟨l, h, e⟩ := h
  exact ⟨l, h, e, fun _ _ _ _ _ h => h, fun _ h => h.elim⟩
theorem DkK.t (h : DkK w0 w ps K) : DkS_ w0 w ps := by
  obtain ⟨l, h, e, _⟩ := h
  exact ⟨l, h, e⟩
/-- What was there before all disks is kept. -/
theorem DkS_.k0 (h : DkS_ w0 w ps) : DkK w0 w ps (fun k => k < w0.heap.size) := by
  obtain ⟨l, h, e⟩ := h
  exact ⟨l, h, e, fun i x hx k hk hn => by have := (h.from_ i x hx).1 k hk; omega, fun k hk => Nat.lt_of_lt_of_le hk h.ext.le⟩
theorem DkK.op {F : Nat} {args : Array Value} {E : Ending} {s' : DkS} (h : DkK w0 w ps K) (hi : ps[i]? = some (p, s)) (hc : ∀ M D, DkX w p M D s → Calls Try.prog F args w fun e w' => e = E ∧ DkP w p M D w' s') :
    Calls Try.prog F args w fun e w' => e = E ∧ Hid (DkK w0 w' (ps.set i (p, s')) K) ∧ Hid (∀ (α : Type) (d : Kd α) (v : Value) (xs : List α), Rs d w K v xs → Rs d w' K v xs) := by
  obtain ⟨l, hl, hm, hK, hlt⟩ := h
  obtain ⟨x, hx, hps⟩ : ∃ x, l[i]? = some x ∧ (x.p, x.s) = (p, s) := by
    rw [← hm, List.getElem?_map] at hi
    obtain ⟨x, hx, e⟩ := Option.map_eq_some_iff.1 hi
    exact ⟨x, hx, e⟩
  injection hps with e1 e2
  subst e1; subst e2
  refine (hc _ _ (hl.each i x hx)).mono ?_
  rintro e w' ⟨rfl, M', D', h1, h2⟩
  refine ⟨rfl, Lib.hid ⟨_, hl.step hx h1 h2, by rw [← hm, List.map_set], fun j y hj k hk => ?_, fun k hk => Nat.lt_of_lt_of_le (hlt k hk) h2.1.le⟩, Lib.hid fun α d v xs hr => hr.upd h2.1 fun b hb hM => hK i x hx b hM hb⟩
  rw [List.getElem?_set] at hj
  split at hj
  · have hil : i < l.length := (List.getElem?_eq_some_iff.1 hx).1
    first | rw [if_pos hil] at hj | skip
    injection hj with hj
    subst hj
    rcases h2.2.1 k hk with h3 | h3
    · exact hK i x hx k h3
    · intro h4; have := hlt k h4; omega
  · exact hK j y hj k hk
theorem DkK.look {F : Nat} {args : Array Value} {Q : Ending → World → Prop} (h : DkK w0 w ps K) (hi : ps[i]? = some (p, s)) (hc : ∀ M D, DkX w p M D s → Calls Try.prog F args w fun e w' => Q e w' ∧ Ext w w') :
    Calls Try.prog F args w fun e w' => Q e w' ∧ Hid (Ext w w') ∧ ∃ K', Hid (DkK w0 w' ps K') ∧ Hid (∀ k, (K k ∨ (w.heap.size ≤ k ∧ k < w'.heap.size)) → K' k) := by
  obtain ⟨M, D, hx⟩ := h.t.x hi
  obtain ⟨l, hl, hm, hK, hlt⟩ := h
  refine (hc M D hx).mono ?_
  rintro e w' ⟨h1, h2⟩
  refine ⟨h1, Lib.hid h2, _, Lib.hid ⟨l, hl.ext_ h2, hm, fun j y hj k hk h3 => ?_, fun k hk => ?_⟩, Lib.hid fun k hk => hk⟩
  · rcases h3 with h3 | h3
    · exact hK j y hj k hk h3
    · have := (hl.each j y hj).ltM k hk; omega
  · rcases hk with hk | hk
    · exact Nat.lt_of_lt_of_le (hlt k hk) h2.le
    · exact hk.2
theorem DkK.ext (h : DkK w0 w ps K) : Ext w0 w := h.t.ext
theorem DkK.ok (h : DkK w0 w ps K) (hi : ps[i]? = some (p, s)) : DkOk s := h.t.ok hi
/-- What a read hands over: kept. -/
def RdK (w : World) (s : DkS) (n : Nam) (w0 : World) (ps : List (Nat × DkS)) (K : Nat → Prop) (e : Ending) (w' : World) : Prop :=
  ∃ (A : Option Addr) (m c : Nat) (K' : Nat → Prop), e = .returned (.tuple #[.slice A m c, .int .i64 (findF s n)]) ∧ Hid (Ext w w') ∧ Hid (DkK w0 w' ps K') ∧ Hid (Rs kByte w' K' (.slice A m c) (readF s n)) ∧ Hid (∀ k, K k → K' k) ∧ Hid (m = (readF s n).length)
theorem DkK.read (h : DkK w0 w ps K) (hi : ps[i]? = some (p, s)) {n : Nam} (hn : n.length ≤ 9223372036854775807) : Calls Try.prog 18 #[ptr p, .string ⟨n.toArray⟩] w (RdK w s n w0 ps K) := by
  refine (h.look (Q := fun e w' => ∃ v, e = .returned (.tuple #[v, .int .i64 (findF s n)]) ∧ Rs kByte w' (fun k => w.heap.size ≤ k ∧ k < w'.heap.size) v (readF s n)) hi fun M D hx => (Read_calls w p M D s n hx hn).mono fun e w' ⟨v, h1, h2, h3⟩ => ⟨⟨v, h1, h2.rs.bound⟩, h3⟩).mono ?_
  rintro e w' ⟨⟨v, rfl, hr⟩, hx, K', hk, hkk⟩
  have hr' := hr.mono (S' := K') fun k hk => hkk.out k (.inr hk)
  obtain ⟨A, c, rfl, -⟩ := id hr'
  exact ⟨A, _, c, K', rfl, hx, hk, Lib.hid hr', Lib.hid fun k h => hkk.out k (.inl h), Lib.hid rfl⟩
/-- The names of the files, in order. -/
def LsK (w : World) (s : DkS) (w0 : World) (ps : List (Nat × DkS)) (K : Nat → Prop) (e : Ending) (w' : World) : Prop :=
  ∃ (A : Option Addr) (m c : Nat) (K' : Nat → Prop), e = .returned (.slice A m c) ∧ Hid (Ext w w') ∧ Hid (DkK w0 w' ps K') ∧ Hid (Rs kStr w' K' (.slice A m c) (listF s)) ∧ Hid (∀ k, K k → K' k) ∧ Hid (m = (listF s).length)
theorem DkK.list_ (h : DkK w0 w ps K) (hi : ps[i]? = some (p, s)) : Calls Try.prog 23 #[ptr p] w (LsK w s w0 ps K) := by
  refine (h.look (Q := fun e w' => ∃ v, e = .returned v ∧ Rs kStr w' (fun k => w.heap.size ≤ k ∧ k < w'.heap.size) v (listF s)) hi fun M D hx => (List_calls w p M D s hx).mono fun e w' ⟨v, h1, h2, h3⟩ => ⟨⟨v, h1, h2.rs.bound⟩, h3⟩).mono ?_
  rintro e w' ⟨⟨v, rfl, hr⟩, hx, K', hk, hkk⟩
  have hr' := hr.mono (S' := K') fun k hk => hkk.out k (.inr hk)
  obtain ⟨A, c, rfl, -⟩ := id hr'
  exact ⟨A, _, c, K', rfl, hx, hk, Lib.hid hr', Lib.hid fun k h => hkk.out k (.inl h), Lib.hid rfl⟩
end
theorem strEq (a b : Nam) : ((⟨a.toArray⟩ : ByteArray).toList == (⟨b.toArray⟩ : ByteArray).toList) = decide (a = b) := by
  rw [ByteArray.toList_eq, ByteArray.toList_eq]
  show (a.toArray.toList == b.toArray.toList) = _
  rw [List.toList_toArray, List.toList_toArray, Bool.eq_iff_iff]
  simp
theorem name_bnd {n : Nam} (y : (⟨n.toArray⟩ : ByteArray).size ≤ maxLen) : n.length ≤ 9223372036854775807 := by
  have h : n.toArray.size ≤ maxLen := y
  unfold maxLen at h
  simpa using h
end Go.Proofs.Ytjjhmknlhfijjaa
set_option linter.unusedVariables false
set_option linter.unusedSimpArgs false
namespace Go.Proofs.Ytjjhmknlhfijjaa
open Go.RowKit

set_option maxRecDepth 100000 in
set_option maxHeartbeats 1600000 in
theorem DiskMoves_walk (w : World) (room : Int) (hroom : -9223372036854775808 ≤ room ∧ room ≤ 9223372036854775807) (S1 : Nat → Prop) (v1 : Value) (l : List DoS) (h1 : Rs kDDo w S1 v1 l) (x2 : ByteArray) (y2 : x2.size ≤ maxLen) (x3 : ByteArray) (y3 : x3.size ≤ maxLen) :
    Calls Try.prog 4 #[.int .i64 room, v1, .string x2, .string x3] w fun e w' => e = .returned (.bool true) ∧ Ext w w' := by
  obtain ⟨o, rfl⟩ := str_of x2
  obtain ⟨t, rfl⟩ := str_of x3
  have HNO := Lib.hid (name_bnd y2)
  have HNT := Lib.hid (name_bnd y3)
  clear y2 y3 hroom
  obtain ⟨A1, c1, e, -⟩ := id h1
  subst e
  have HL1 := Lib.hid h1
  clear h1
  have HMD := Lib.hid (made_calls w w [] room S1 _ l (DkS_.nil w) HL1.out)
  go_enter Try.func4, Try.ntmps4
  go_wp2_with fail
  refine HMD.out.mono ?_
  rintro e w1 ⟨p, s, rfl, HD1, HS1⟩
  unfold ptr
  simp only [List.nil_append] at HD1
  by_cases hs : shortF l = true
  case neg =>
    have hs' : shortF l = false := by simpa using hs
    rw [hs']
    clear hs hs'
    go_wp2_with fail
    refine (awake_calls w1).mono ?_
    rintro e w2 ⟨rfl, hx⟩
    have HX := Lib.hid (HD1.out.ext.trans hx)
    clear hx
    go_wp2_with fail
    go_ret
    exact ⟨rfl, HX.out⟩
  have hs0 := HS1.out hs
  have HLN := Lib.hid (show s.acts.length ≤ 120 by
    rw [hs0]
    have h1 := foldD_len l (newS (room20 room))
    have h2 := short_len hs
    have h3 : (newS (room20 room)).acts.length = 0 := rfl
    unfold madeS
    omega)
  have HRM := Lib.hid (show s.room < 1048576 by rw [hs0]; exact madeS_room room l)
  have HS := Lib.hid hs
  rw [hs]
  clear hs hs0 HMD
  go_wp2_with fail
  refine (HD1.out.op (i := 0) rfl (fun M D hX => Start_calls w1 p M D s hX)).mono ?_
  rintro e wa ⟨rfl, HDa⟩
  change Hid (DkS_ w wa [(p, startS s)]) at HDa
  go_wp2_with fail
  refine (HDa.out.op (i := 0) rfl (fun M D hX => Arm_calls wa p M D (startS s) 0 0 0 hX i0 i0 i0)).mono ?_
  rw [calm_code]
  rintro e w3 ⟨rfl, HD3⟩
  change Hid (DkS_ w w3 [(p, calmS s)]) at HD3
  go_wp2_with fail
  have HC := Lib.hid (calm_is s)
  have HOK := Lib.hid (HD3.out.ok (i := 0) rfl)
  obtain ⟨s1, hs1⟩ : ∃ s1, s1 = calmS s := ⟨_, rfl⟩
  have HLN1 := Lib.hid (show s1.acts.length ≤ 1000000 by rw [hs1]; have := HLN.out; show s.acts.length ≤ 1000000; omega)
  rw [← hs1] at HD3 HC HOK
  clear hs1 HDa HD1 HS1
  have HK3 := Lib.hid HD3.out.k
  refine (HK3.out.read (i := 0) (s := s1) (n := o) rfl HNO.out).mono ?_
  rintro e w4 ⟨A4, m4, c4, K4, rfl, HX4, HK4, HR4, HKK4, HM4⟩
  go_wp2_with fail
  refine (HK4.out.list_ (i := 0) (s := s1) rfl).mono ?_
  rintro e w5 ⟨A5, m5, c5, K5, rfl, HX5, HK5, HR5, HKK5, HM5⟩
  go_wp2_with fail
  refine (HK5.out.read (i := 0) (s := s1) (n := t) rfl HNT.out).mono ?_
  rintro e w6 ⟨A6, m6, c6, K6, rfl, HX6, HK6, HR6, HKK6, HM6⟩
  have HRo := Lib.hid (((HR4.out.ext HX5.out).ext HX6.out).mono (S' := K6) fun k hk => HKK6.out k (HKK5.out k hk))
  clear HR4 HR5 HR6 HX4 HX5 HX6 HM6
  have hmb : m5 ≤ 4096 := by rw [HM5.out, calm_len HC.out]; exact HOK.out.seen_len
  by_cases ho : findF s1 o = 0
  case neg =>
    have hmv : moveS s1 o t = (findF s1 o, s1) := by unfold moveS moveF; rw [if_neg ho, if_neg ho]
    have HMV := Lib.hid hmv
    obtain ⟨r, hr⟩ : ∃ r, r = findF s1 o := ⟨_, rfl⟩
    rw [← hr] at ho ⊢
    have HRR := Lib.hid hr
    have hne : (r != 0) = true := bne_iff_ne.2 ho
    have heq : (r == r) = true := by simp
    clear hmv hr ho
    go_wp2_with fail
    refine (HK6.out.op (i := 0) rfl (fun M D hX => Move_calls w6 p M D s1 o t hX HNO.out HNT.out HLN1.out)).mono ?_
    rw [HMV.out, ← HRR.out]
    rintro e w7 ⟨rfl, HK7, HKR7⟩
    change Hid (DkK w w7 [(p, s1)] K6) at HK7
    go_wp2_with fail
    refine (awake_calls w7).mono ?_
    rintro e wz ⟨rfl, hx⟩
    have HXZ := Lib.hid (HK7.out.ext.trans hx)
    clear hx
    go_wp2_with fail
    go_ret
    exact ⟨rfl, HXZ.out⟩

  rw [ho]
  obtain ⟨hoff, hmo, hgo⟩ := find_iff.1 ho
  obtain ⟨x, hx⟩ := Option.isSome_iff_exists.1 hgo
  have hro : readF s1 o = x := by unfold readF; rw [if_pos ho, bytes_some hx]
  rw [hro] at HRo
  by_cases hmt : mayF t = true
  case neg =>
    have HFT := Lib.hid (show findF s1 t = 20 by rw [calm_find HC.out, if_neg hmt])
    have HMV := Lib.hid (show moveS s1 o t = (20, s1) by unfold moveS moveF; rw [if_pos ho, if_neg hmt, if_neg (by decide)])
    rw [HFT.out]
    clear ho hoff hmo hgo hx hro hmt
    go_wp2_with fail
    refine (HK6.out.op (i := 0) rfl (fun M D hX => Move_calls w6 p M D s1 o t hX HNO.out HNT.out HLN1.out)).mono ?_
    rw [HMV.out]
    rintro e w7 ⟨rfl, HK7, HKR7⟩
    change Hid (DkK w w7 [(p, s1)] K6) at HK7
    go_wp2_with fail
    refine (HK7.out.list_ (i := 0) (s := s1) rfl).mono ?_
    rintro e w8 ⟨A8, m8, c8, K8, rfl, HX8, HK8, HR8, HKK8, HM8⟩
    rw [HM8.out, ← HM5.out]
    clear HR8 HM8
    go_wp2_with fail
    refine (awake_calls w8).mono ?_
    rintro e wz ⟨rfl, hx⟩
    have HXZ := Lib.hid (HK8.out.ext.trans hx)
    clear hx
    go_wp2_with fail
    go_ret
    exact ⟨rfl, HXZ.out⟩

  obtain ⟨s2, hs2⟩ : ∃ s2, s2 = putA s1 ⟨.mv o t, []⟩ := ⟨_, rfl⟩
  have HMV := Lib.hid (show moveS s1 o t = (0, s2) by
    have e : moveF s1 o t = 0 := by unfold moveF; rw [if_pos ho, if_pos hmt]
    unfold moveS
    rw [if_pos e, calm_push HC.out, hs2])
  have hsn : s2.seen = putK (delK s1.seen o) t x := by
    rw [hs2, put_seen]
    show putK (delK s1.seen o) t (bytesK s1.seen o) = _
    rw [bytes_some hx]
  have HC2 : Calm s2 := by rw [hs2]; exact calm_put HC.out _
  have hr1 := HOK.out.seen_rise
  have hgt : getK s2.seen t = some x := by rw [hsn, getK_putK (rise_delK hr1 o), if_pos rfl]
  have HF2t := Lib.hid (show findF s2 t = 0 by rw [calm_find HC2, if_pos hmt, hgt]; rfl)
  have HR2t := Lib.hid (show readF s2 t = x by unfold readF; rw [if_pos HF2t.out, bytes_some hgt])
  have hlen2 : (listF s2).length = (delK (delK s1.seen o) t).length + 1 := by
    rw [calm_len HC2, hsn]
    unfold putK
    rw [insK_len]
  have hl1 : (delK s1.seen o).length + 1 = m5 := by rw [delK_len hr1 hx, HM5.out, calm_len HC.out]
  obtain ⟨m2, hm2⟩ : ∃ m2, m2 = (listF s2).length := ⟨_, rfl⟩
  have HM2 := Lib.hid hm2
  have hgo2 : getK s2.seen o = if o = t then some x else none := by
    rw [hsn, getK_putK (rise_delK hr1 o), getK_delK hr1]
    split
    · rfl
    · simp
  have HKT : findF s1 t = if (getK s1.seen t).isSome then 0 else 21 := by rw [calm_find HC.out, if_pos hmt]
  clear hs2 hsn hoff hgo hro
  by_cases hot : o = t
  case pos =>
    subst hot
    have HF2o := HF2t
    have he : m2 = m5 := by
      rw [HM2.out, hlen2, delK_none (by rw [getK_delK hr1, if_pos rfl])]
      exact hl1
    rw [ho]
    rw [he] at HM2
    have hb1 : ((m5 : Int) == (m5 : Int) - 1) = false := beq_eq_false_iff_ne.2 (by omega)
    clear hgt hgo2 HKT hlen2 hl1 hm2 he ho hx
    go_wp2_with fail
    refine (HK6.out.op (i := 0) rfl (fun M D hX => Move_calls w6 p M D s1 o o hX HNO.out HNT.out HLN1.out)).mono ?_
    rw [HMV.out]
    rintro e w7 ⟨rfl, HK7, HKR7⟩
    change Hid (DkK w w7 [(p, s2)] K6) at HK7
    have HRo7 := Lib.hid (HKR7.out _ _ _ _ HRo.out)
    go_wp2_with fail
    refine (HK7.out.read (i := 0) (s := s2) (n := o) rfl HNT.out).mono ?_
    rintro e w8 ⟨A8, m8, c8, K8, rfl, HX8, HK8, HR8, HKK8, HM8⟩
    rw [HF2t.out]
    rw [HR2t.out] at HR8
    go_wp2_with fail
    refine (HK8.out.read (i := 0) (s := s2) (n := o) rfl HNO.out).mono ?_
    rintro e w9 ⟨A9, m9, c9, K9, rfl, HX9, HK9, HR9, HKK9, HM9⟩
    rw [HF2o.out]
    have HR8b := Lib.hid (HR8.out.ext HX9.out)
    have HRob := Lib.hid ((HRo7.out.ext HX8.out).ext HX9.out)
    clear HR9 HM9 HM8 HRo HR8 HRo7 HX8 HX9
    go_wp2_with fail
    refine (Equal_same w9 _ _ _ _ _ HR8b.out HRob.out).mono ?_
    rintro e w' ⟨rfl, rfl⟩
    go_wp2_with fail
    refine (HK9.out.list_ (i := 0) (s := s2) rfl).mono ?_
    rintro e w10 ⟨A10, m10, c10, K10, rfl, HX10, HK10, HR10, HKK10, HM10⟩
    rw [HM10.out, ← HM2.out]
    clear HR10 HM10
    go_wp2_with fail
    refine (awake_calls w10).mono ?_
    rintro e wz ⟨rfl, hx⟩
    have HXZ := Lib.hid (HK10.out.ext.trans hx)
    clear hx
    go_wp2_with fail
    go_ret
    exact ⟨rfl, HXZ.out⟩

  have hotb : (o == t) = false := beq_eq_false_iff_ne.2 hot
  have HF2o := Lib.hid (show findF s2 o = 21 by rw [calm_find HC2, if_pos hmo, hgo2, if_neg hot]; rfl)
  rcases hkt : getK s1.seen t with _ | y
  · have he : m2 = m5 := by
      rw [HM2.out, hlen2, delK_none (by rw [getK_delK hr1, hkt]; simp)]
      exact hl1
    rw [hkt] at HKT
    have HKT' := Lib.hid (show findF s1 t = 21 from HKT)
    rw [HKT'.out]
    rw [he] at HM2
    have hb1 : ((m5 : Int) == (m5 : Int) - 1) = false := beq_eq_false_iff_ne.2 (by omega)
    clear hgt hgo2 HKT hlen2 hl1 hm2 he ho hx hkt
    go_wp2_with fail
    refine (HK6.out.op (i := 0) rfl (fun M D hX => Move_calls w6 p M D s1 o t hX HNO.out HNT.out HLN1.out)).mono ?_
    rw [HMV.out]
    rintro e w7 ⟨rfl, HK7, HKR7⟩
    change Hid (DkK w w7 [(p, s2)] K6) at HK7
    have HRo7 := Lib.hid (HKR7.out _ _ _ _ HRo.out)
    go_wp2_with fail
    refine (HK7.out.read (i := 0) (s := s2) (n := t) rfl HNT.out).mono ?_
    rintro e w8 ⟨A8, m8, c8, K8, rfl, HX8, HK8, HR8, HKK8, HM8⟩
    rw [HF2t.out]
    rw [HR2t.out] at HR8
    go_wp2_with fail
    refine (HK8.out.read (i := 0) (s := s2) (n := o) rfl HNO.out).mono ?_
    rintro e w9 ⟨A9, m9, c9, K9, rfl, HX9, HK9, HR9, HKK9, HM9⟩
    rw [HF2o.out]
    have HR8b := Lib.hid (HR8.out.ext HX9.out)
    have HRob := Lib.hid ((HRo7.out.ext HX8.out).ext HX9.out)
    clear HR9 HM9 HM8 HRo HR8 HRo7 HX8 HX9
    go_wp2_with fail
    refine (Equal_same w9 _ _ _ _ _ HR8b.out HRob.out).mono ?_
    rintro e w' ⟨rfl, rfl⟩
    go_wp2_with fail
    refine (HK9.out.list_ (i := 0) (s := s2) rfl).mono ?_
    rintro e w10 ⟨A10, m10, c10, K10, rfl, HX10, HK10, HR10, HKK10, HM10⟩
    rw [HM10.out, ← HM2.out]
    clear HR10 HM10
    go_wp2_with fail
    refine (awake_calls w10).mono ?_
    rintro e wz ⟨rfl, hx⟩
    have HXZ := Lib.hid (HK10.out.ext.trans hx)
    clear hx
    go_wp2_with fail
    go_ret
    exact ⟨rfl, HXZ.out⟩

  · have he : m2 + 1 = m5 := by
      rw [HM2.out, hlen2]
      have := delK_len (rise_delK hr1 o) (n := t) (x := y) (by rw [getK_delK hr1, if_neg (fun e => hot e.symm), hkt])
      omega
    rw [hkt] at HKT
    have HKT' := Lib.hid (show findF s1 t = 0 from HKT)
    rw [HKT'.out]
    have hb1 : ((m2 : Int) == (m5 : Int) - 1) = true := beq_iff_eq.2 (by omega)
    clear hgt hgo2 HKT hlen2 hl1 hm2 ho hx hkt
    go_wp2_with fail
    refine (HK6.out.op (i := 0) rfl (fun M D hX => Move_calls w6 p M D s1 o t hX HNO.out HNT.out HLN1.out)).mono ?_
    rw [HMV.out]
    rintro e w7 ⟨rfl, HK7, HKR7⟩
    change Hid (DkK w w7 [(p, s2)] K6) at HK7
    have HRo7 := Lib.hid (HKR7.out _ _ _ _ HRo.out)
    go_wp2_with fail
    refine (HK7.out.read (i := 0) (s := s2) (n := t) rfl HNT.out).mono ?_
    rintro e w8 ⟨A8, m8, c8, K8, rfl, HX8, HK8, HR8, HKK8, HM8⟩
    rw [HF2t.out]
    rw [HR2t.out] at HR8
    go_wp2_with fail
    refine (HK8.out.read (i := 0) (s := s2) (n := o) rfl HNO.out).mono ?_
    rintro e w9 ⟨A9, m9, c9, K9, rfl, HX9, HK9, HR9, HKK9, HM9⟩
    rw [HF2o.out]
    have HR8b := Lib.hid (HR8.out.ext HX9.out)
    have HRob := Lib.hid ((HRo7.out.ext HX8.out).ext HX9.out)
    clear HR9 HM9 HM8 HRo HR8 HRo7 HX8 HX9
    go_wp2_with fail
    refine (Equal_same w9 _ _ _ _ _ HR8b.out HRob.out).mono ?_
    rintro e w' ⟨rfl, rfl⟩
    go_wp2_with fail
    refine (HK9.out.list_ (i := 0) (s := s2) rfl).mono ?_
    rintro e w10 ⟨A10, m10, c10, K10, rfl, HX10, HK10, HR10, HKK10, HM10⟩
    rw [HM10.out, ← HM2.out]
    clear HR10 HM10
    go_wp2_with fail
    refine (awake_calls w10).mono ?_
    rintro e wz ⟨rfl, hx⟩
    have HXZ := Lib.hid (HK10.out.ext.trans hx)
    clear hx
    go_wp2_with fail
    go_ret
    exact ⟨rfl, HXZ.out⟩

end Go.Proofs.Ytjjhmknlhfijjaa
