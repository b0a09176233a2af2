/-
  Texts of this claim, put together: DskPlain, DiskApart.
-/
import Derived.Test.YtjjhmknlhfijjaaZ9
set_option linter.unusedVariables false
set_option linter.unusedSimpArgs false
namespace Go.Proofs.Ytjjhmknlhfijjaa
open Go.RowKit

/-- The act that a call asks for. -/
def mkA (d : DoS) : ActS :=
  if op10 d.op = 3 then ⟨.tr d.name d.at_.toNat, []⟩ else if op10 d.op = 4 then ⟨.mv d.name d.to, []⟩ else if op10 d.op = 5 then ⟨.dp d.name, []⟩ else ⟨.wr d.name d.at_.toNat, d.b⟩
/-- Why it may not be. -/
def codeF (s : DkS) (d : DoS) : Int :=
  if op10 d.op = 3 then trimF s d.name d.at_ else if op10 d.op = 4 then moveF s d.name d.to else if op10 d.op = 5 then findF s d.name else writeF s d.name d.at_ d.b
/-- Neither a sync nor one that is no act. -/
def IsAct (d : DoS) : Prop := op10 d.op ≠ 6 ∧ op10 d.op ≠ 7 ∧ op10 d.op ≠ 8 ∧ op10 d.op ≠ 9
theorem op10_lt (x : Int) : 0 ≤ op10 x ∧ op10 x < 10 := by
  unfold op10
  have hq : 0 ≤ IntKind.u64.wrap x := by rw [IntKind.wrap_u64]; omega
  rw [Int.tmod_eq_emod_of_nonneg hq]
  have h3 := Int.emod_nonneg (IntKind.u64.wrap x) (show (10 : Int) ≠ 0 by omega)
  have h4 := Int.emod_lt_of_pos (IntKind.u64.wrap x) (show (0 : Int) < 10 by omega)
  generalize (IntKind.u64.wrap x) % 10 = y at h3 h4
  rw [IntWalk.wrap64_in _ (by omega)]
  omega
theorem isAct_of {d : DoS} (h : op10 d.op < 6) : IsAct d := ⟨by omega, by omega, by omega, by omega⟩
theorem does_act {d : DoS} (h : IsAct d) (s : DkS) : doesS s d = if codeF s d = 0 then pushS s (mkA d) else (codeF s d, s) := by
  unfold doesS doesO codeF mkA
  obtain ⟨h6, h7, h8, h9⟩ := h
  by_cases h3 : op10 d.op = 3
  · simp only [if_pos h3]; rfl
  · by_cases h4 : op10 d.op = 4
    · simp only [if_neg h3, if_pos h4]; rfl
    · by_cases h5 : op10 d.op = 5
      · simp only [if_neg h3, if_neg h4, if_pos h5]; rfl
      · simp only [if_neg h3, if_neg h4, if_neg h5, if_neg h6, if_neg h7, if_neg h8, if_neg h9]; rfl
theorem does_sync {d : DoS} (h : op10 d.op = 6) (s : DkS) : doesS s d = syncS s := by
  unfold doesS doesO
  rw [h]
  rfl
theorem code_fits {s : DkS} (hk : DkOk s) {d : DoS} (h : codeF s d = 0) : fit1 s.seen (mkA d) ∧ s.off = false := by
  unfold codeF at h
  unfold mkA
  split
  · rename_i h3
    rw [if_pos h3] at h
    exact ⟨(trim_fits hk h).1, (trim_fits hk h).2.1⟩
  · rename_i h3
    rw [if_neg h3] at h
    split
    · rename_i h4
      rw [if_pos h4] at h
      exact move_fits hk h
    · rename_i h4
      rw [if_neg h4] at h
      split
      · rename_i h5
        rw [if_pos h5] at h
        exact drop_fits hk h
      · rename_i h5
        rw [if_neg h5] at h
        exact ⟨(write_fits hk h).1, (write_fits hk h).2.2.1⟩
/-- What is seen of two disks, and what goes in, alike. -/
def Like (s t : DkS) : Prop := s.off = t.off ∧ s.room = t.room ∧ s.last = t.last ∧ s.acts = t.acts
theorem Like.seen {s t : DkS} (h : Like s t) : s.seen = t.seen := by unfold DkS.seen; rw [h.2.2.1, h.2.2.2]
theorem Like.find {s t : DkS} (h : Like s t) (n : Nam) : findF s n = findF t n := by unfold findF; rw [h.1, h.seen]
theorem Like.code {s t : DkS} (h : Like s t) (d : DoS) : codeF s d = codeF t d := by
  have hs := h.seen
  have hf := h.find
  unfold codeF trimF moveF writeF DkS.len DkS.used
  rw [hs, h.2.1, h.2.2.1, h.2.2.2]
  simp only [hf]
theorem Like.put {s t : DkS} (h : Like s t) (x : ActS) : Like (putA s x) (putA t x) := ⟨h.1, h.2.1, h.2.2.1, by unfold putA; rw [h.2.2.2]⟩
theorem Like.fall {s t : DkS} (h : Like s t) (k r : Int) : fallS s k r = fallS t k r := by unfold fallS; rw [h.2.1, h.2.2.1, h.2.2.2]
theorem Like.symm {s t : DkS} (h : Like s t) : Like t s := ⟨h.1.symm, h.2.1.symm, h.2.2.1.symm, h.2.2.2.symm⟩
theorem find_cases (s : DkS) (n : Nam) (h : s.off = false) : findF s n = 0 ∨ findF s n = 21 ∨ findF s n = 20 := by
  unfold findF
  rw [h]
  rcases mayF n <;> rcases (getK s.seen n).isSome <;> simp
/-- A refusal of a disk that is on: no 22. -/
theorem code_22 {s : DkS} (h : s.off = false) (d : DoS) : codeF s d ≠ 22 := by
  unfold codeF trimF moveF writeF
  have h1 := find_cases s d.name h
  split
  · split
    · split <;> decide
    · omega
  · split
    · split
      · split <;> decide
      · omega
    · split
      · omega
      · split
        · split
          · decide
          · split <;> decide
        · split
          · split
            · decide
            · split <;> decide
          · omega
end Go.Proofs.Ytjjhmknlhfijjaa
set_option linter.unusedVariables false
set_option linter.unusedSimpArgs false
namespace Go.Proofs.Ytjjhmknlhfijjaa
open Go.RowKit

theorem DkS_.fresh {w0 w w' : World} {ps : List (Nat × DkS)} (h : DkS_ w0 w ps) (hu : Upd (fun k => w.heap.size ≤ k) w w') : DkS_ w0 w' ps := by
  obtain ⟨l, hl, e⟩ := h
  refine ⟨l, ⟨hu.ext hl.ext (fun k hk => Nat.le_trans hl.ext.le hk), fun i x hx => (hl.each i x hx).upd hu (fun k hk => by have := (hl.each i x hx).ltM k hk; omega) (fun k hk => by have := (hl.each i x hx).ltD k hk; omega), hl.from_, hl.apart⟩, e⟩
theorem Rs.one_ddo {W : World} {T : Nat → Prop} {g : Nat} {t : TypeId} {d : DoS} {vb : Value} (hb : W.heap[g]? = some (.cells (doC d vb) t (0, 0))) (hS : T g) (hd : DoI d) (hv : Rs kByte W T vb d.b) : Rs kDDo W T (.slice (some ⟨g, 0, none⟩) 1 1) [d] :=
  ⟨_, 1, rfl, by simp, by omega, by simp, Row.of_block hb hS fun j x hj => by
    match j, hj with
    | 0, hj =>
      simp at hj; subst hj
      refine ⟨_, kDDo_iff.2 ⟨vb, rfl, hd, hv⟩, fun i u hi => ?_⟩
      simp only [Nat.zero_mul, Nat.zero_add]
      simpa using hi⟩
def actB (d : DoS) : Bool := decide (op10 d.op < 6)
set_option maxHeartbeats 1000000 in
theorem acts_calls (w : World) (d : DoS) (vb : Value) : Calls Try.prog 26 #[.agg (doC d vb)] w fun e w' => e = .returned (.bool (actB d)) ∧ Ext w w' := by
  have ho : wrap64 ((IntKind.u64.wrap d.op).tmod 10) = op10 d.op := rfl
  unfold doC
  go_enter Try.func26, Try.ntmps26
  go_wp2_with fail
  rw [ho]
  go_ret
  exact ⟨rfl, (Ext.refl w).alloc _⟩
theorem apart_get {L : KL Nam} (hr : riseK L) (d : DoS) {n : Nam} (h1 : n ≠ d.name) (h2 : n ≠ d.to ∨ op10 d.op ≠ 4) : getK (doA L (mkA d).k (mkA d).data) n = getK L n := by
  unfold mkA
  split
  · show getK (putK L d.name _) n = _
    rw [getK_putK hr, if_neg h1]
  · split
    · rename_i h4
      have h3 : n ≠ d.to := h2.resolve_right (fun h => h h4)
      show getK (putK (delK L d.name) d.to _) n = _
      rw [getK_putK (rise_delK hr _), if_neg h3, getK_delK hr, if_neg h1]
    · split
      · show getK (delK L d.name) n = _
        rw [getK_delK hr, if_neg h1]
      · show getK (putK L d.name _) n = _
        rw [getK_putK hr, if_neg h1]
theorem apart_does {s : DkS} (hk : DkOk s) (hc : Calm s) {d : DoS} (ha : IsAct d) {n : Nam} (h1 : n ≠ d.name) (h2 : n ≠ d.to ∨ op10 d.op ≠ 4) : findF (doesS s d).2 n = findF s n ∧ readF (doesS s d).2 n = readF s n := by
  rw [does_act ha]
  split
  · rw [calm_push hc]
    have hg := apart_get hk.seen_rise d h1 h2
    have hf : findF (putA s (mkA d)) n = findF s n := by
      rw [calm_find (calm_put hc _), calm_find hc, put_seen, hg]
    refine ⟨hf, ?_⟩
    unfold readF
    show (if findF (putA s (mkA d)) n = 0 then bytesK (putA s (mkA d)).seen n else []) = _
    rw [hf]
    unfold bytesK
    rw [put_seen, hg]
  · exact ⟨rfl, rfl⟩
set_option maxRecDepth 100000 in
set_option maxHeartbeats 1600000 in
theorem DiskApart_walk (w : World) (room : Int) (hroom : -9223372036854775808 ≤ room ∧ room ≤ 9223372036854775807) (S1 : Nat → Prop) (v1 : Value) (l : List DoS) (h1 : Rs kDDo w S1 v1 l) (cs : Array Value) (d : DoS) (hm : kDDo.K w (· < w.heap.size) d cs.toList) :
    Calls Try.prog 5 #[.int .i64 room, v1, .agg cs] w fun e w' => e = .returned (.bool true) ∧ Ext w w' := by
  obtain ⟨vb, hcs, hd, hv⟩ := kDDo_iff.1 hm
  obtain rfl : cs = doC d vb := by rw [← Array.toList_inj]; exact hcs
  obtain ⟨Ab, cb, e, -⟩ := id hv
  subst e
  have HD := Lib.hid hd
  have HV := Lib.hid hv
  clear hm hcs hd hv hroom
  obtain ⟨wA, hwA⟩ : ∃ wA, wA = w.alloc (.cells (doC d (.slice Ab d.b.length cb)) 43) := ⟨_, rfl⟩
  obtain ⟨g, hg⟩ : ∃ g, g = w.heap.size := ⟨_, rfl⟩
  have HXA := Lib.hid (show Ext w wA by rw [hwA]; exact (Ext.refl w).alloc _)
  have HG := Lib.hid (show wA.heap[g]? = some (.cells (doC d (.slice Ab d.b.length cb)) 43 (0, 0)) by rw [hwA]; exact heap_new w g hg.symm _)
  have HVA := Lib.hid ((HV.out.ext HXA.out).mono (S' := fun _ => True) fun _ _ => trivial)
  unfold doC at hwA
  obtain ⟨A1, c1, e, -⟩ := id h1
  subst e
  have HL1 := Lib.hid h1
  clear h1
  have HMD := Lib.hid (made_calls wA wA [] room S1 _ l (DkS_.nil wA) (HL1.out.ext HXA.out))
  unfold doC
  go_enter Try.func5, Try.ntmps5
  go_upto_region 1 with fail
  rw [← hwA, ← hg]
  clear hwA hg
  go_wp2_with fail
  refine HMD.out.mono ?_
  rintro e w1 ⟨p, s, rfl, HD1, HS1⟩
  unfold ptr
  simp only [List.nil_append] at HD1
  obtain ⟨x0, x1, x2, x3, x4, x5, x6, x7⟩ := do_cells (blk_ext HG.out HD1.out.ext)
  have hgl := blk_lt (blk_ext HG.out HD1.out.ext)
  by_cases hs : shortF l = true
  case neg =>
    have hs' : shortF l = false := by simpa using hs
    rw [hs']
    clear hs hs'
    go_wp2_with fail
    refine (awake_calls w1).mono ?_
    rintro e w2 ⟨rfl, hx⟩
    have HX := Lib.hid ((HXA.out.trans HD1.out.ext).trans hx)
    clear hx
    go_wp2_with fail
    go_ret
    exact ⟨rfl, HX.out⟩
  have hs0 := HS1.out hs
  have HLN := Lib.hid (show s.acts.length ≤ 120 by
    rw [hs0]
    have h1 := foldD_len l (newS (room20 room))
    have h2 := short_len hs
    have h3 : (newS (room20 room)).acts.length = 0 := rfl
    unfold madeS
    omega)
  have HRM := Lib.hid (show s.room < 1048576 by rw [hs0]; exact madeS_room room l)
  have HS := Lib.hid hs
  rw [hs]
  clear hs hs0 HMD
  obtain ⟨w2, hw2⟩ : ∃ w2, w2 = w1.alloc (.cells (doC d (.slice Ab d.b.length cb)) 43) := ⟨_, rfl⟩
  obtain ⟨g2, hg2⟩ : ∃ g2, g2 = w1.heap.size := ⟨_, rfl⟩
  have hx2 : Ext w1 w2 := by rw [hw2]; exact (Ext.refl _).alloc _
  have HD2 := Lib.hid (HD1.out.ext_ hx2)
  have HONE := Lib.hid (show Rs kDDo w2 (fun _ => True) (.slice (some ⟨g2, 0, none⟩) 1 1) [d] from Rs.one_ddo (by rw [hw2]; exact heap_new w1 g2 hg2.symm _) trivial HD.out ((HVA.out.ext HD1.out.ext).ext hx2))
  unfold doC at hw2
  clear hx2
  go_wp2_with fail
  rw [← hw2, ← hg2]
  clear hw2 hg2 x0 x1 x2 x3 x4 x5 x6 x7 hgl
  refine (short_calls w2 _ _ [d] HONE.out).mono ?_
  rintro e w' ⟨rfl, rfl⟩
  obtain ⟨x0, x1, x2, x3, x4, x5, x6, x7⟩ := do_cells (blk_ext HG.out HD2.out.ext)
  have hgl := blk_lt (blk_ext HG.out HD2.out.ext)
  by_cases hs : shortF [d] = true
  case neg =>
    have hs' : shortF [d] = false := by simpa using hs
    rw [hs']
    clear hs hs'
    go_wp2_with fail
    refine (awake_calls w2).mono ?_
    rintro e wz ⟨rfl, hx⟩
    have HXZ := Lib.hid ((HXA.out.trans HD2.out.ext).trans hx)
    clear hx
    go_wp2_with fail
    go_ret
    exact ⟨rfl, HXZ.out⟩

  rw [hs]
  clear hs
  go_wp2_with fail
  refine (acts_calls w2 d (.slice Ab d.b.length cb)).mono ?_
  rintro e w3 ⟨rfl, hx3⟩
  have HD3 := Lib.hid (HD2.out.ext_ hx3)
  clear hx3
  by_cases ha : actB d = true
  case neg =>
    have ha' : actB d = false := by simpa using ha
    rw [ha']
    clear ha ha'
    go_wp2_with fail
    refine (awake_calls w3).mono ?_
    rintro e wz ⟨rfl, hx⟩
    have HXZ := Lib.hid ((HXA.out.trans HD3.out.ext).trans hx)
    clear hx
    go_wp2_with fail
    go_ret
    exact ⟨rfl, HXZ.out⟩

  rw [ha]
  have HA := Lib.hid (show IsAct d from isAct_of (by unfold actB at ha; simpa using ha))
  clear ha x0 x1 x2 x3 x4 x5 x6 x7 hgl HD1 HD2 HONE HS1
  go_wp2_with fail
  refine (HD3.out.op (i := 0) rfl (fun M D hX => Start_calls w3 p M D s hX)).mono ?_
  rintro e wa ⟨rfl, HDa⟩
  change Hid (DkS_ wA wa [(p, startS s)]) at HDa
  go_wp2_with fail
  refine (HDa.out.op (i := 0) rfl (fun M D hX => Arm_calls wa p M D (startS s) 0 0 0 hX i0 i0 i0)).mono ?_
  rw [calm_code]
  rintro e w4 ⟨rfl, HD4⟩
  change Hid (DkS_ wA w4 [(p, calmS s)]) at HD4
  go_wp2_with fail
  have HC := Lib.hid (calm_is s)
  obtain ⟨s1, hs1⟩ : ∃ s1, s1 = calmS s := ⟨_, rfl⟩
  have HLN1 := Lib.hid (show s1.acts.length ≤ 1000000 by rw [hs1]; have := HLN.out; show s.acts.length ≤ 1000000; omega)
  rw [← hs1] at HD4 HC
  clear hs1 HDa HD3
  have HOK := Lib.hid (HD4.out.ok (i := 0) rfl)
  refine (HD4.out.twin (i := 0) rfl HLN1.out).mono ?_
  rintro e w5 ⟨q, rfl, HD5, -⟩
  change Hid (DkS_ wA w5 [(p, s1), (q, s1)]) at HD5
  unfold ptr
  obtain ⟨x0, x1, x2, x3, x4, x5, x6, x7⟩ := do_cells (blk_ext HG.out HD5.out.ext)
  have hgl := blk_lt (blk_ext HG.out HD5.out.ext)
  go_wp2_with fail
  refine (HD5.out.op (i := 0) rfl (fun M D hX => does_calls w5 p M D _ s1 d _ hX HD.out (HVA.out.ext HD5.out.ext) HLN1.out)).mono ?_
  rintro e w6 ⟨rfl, HD6⟩
  change Hid (DkS_ wA w6 [(p, (doesS s1 d).2), (q, s1)]) at HD6
  clear x0 x1 x2 x3 x4 x5 x6 x7 hgl
  obtain ⟨s2, hs2⟩ : ∃ s2, s2 = (doesS s1 d).2 := ⟨_, rfl⟩
  have HAP := Lib.hid (show ∀ n : Nam, n ≠ d.name → (n ≠ d.to ∨ op10 d.op ≠ 4) → findF s2 n = findF s1 n ∧ readF s2 n = readF s1 n from fun n h1 h2 => by rw [hs2]; exact apart_does HOK.out HC.out HA.out h1 h2)
  rw [← hs2] at HD6
  clear hs2
  go_wp2_with fail
  refine (HD6.out.look (i := 1) (Q := fun e w' => ∃ v, e = .returned v ∧ Ow kStr 9 w' w6.heap.size (w6.heap.size ≤ ·) v (listF s1)) rfl fun M D hx => (List_calls w6 q M D s1 hx).mono fun e w' ⟨v, h1, h2, h3⟩ => ⟨⟨v, h1, h2⟩, h3⟩).mono ?_
  rintro e w7 ⟨⟨v7, rfl, ho7⟩, HX7, HD7⟩
  have HO7 := Lib.hid ho7
  obtain ⟨A7, c7, rfl, -, -, -, -⟩ := ho7.rs
  clear ho7
  go_wp2_with fail
  refine (HD7.out.look (i := 0) (Q := fun e w' => ∃ v, e = .returned v ∧ Rs kStr w' (fun _ => True) v (listF s2)) rfl fun M D hx => (List_calls w7 p M D s2 hx).mono fun e w' ⟨v, h1, h2, h3⟩ => ⟨⟨v, h1, h2.all.rs⟩, h3⟩).mono ?_
  rintro e w8 ⟨⟨v8, rfl, hr8⟩, HX8, HD8⟩
  have HR8 := Lib.hid hr8
  obtain ⟨A8, c8, rfl, -, -, -, -⟩ := hr8
  have HO8 := Lib.hid (HO7.out.ext HX8.out)
  have HLL := Lib.hid (show (listF s1).length ≤ 4096 ∧ (listF s2).length ≤ 4096 by
    constructor
    · rw [calm_len HC.out]; exact HOK.out.seen_len
    · have h := HD8.out.ok (i := 0) rfl
      unfold listF
      split
      · simp
      · rw [List.length_map]; exact h.seen_len)
  go_wp2_with (at_builtin; refine wpList_append_Rs kStr rfl (.tmp 46) (.tmp 48) 38 9 rfl tStrs w6.heap.size _ _ (listF s1) (listF s2) (w6.heap.size ≤ ·) _ rfl rfl HO8.out HR8.out (fun _ _ h => h) (fun k hk => Nat.le_trans (HX7.out.trans HX8.out).le hk) (by have := HLL.out; omega) (HX7.out.trans HX8.out).le ?_)
  intro v9 w9 ho9 hg9 _
  have hf8 := HO8.out.from_
  have HU9 := Lib.hid (((HX7.out.trans HX8.out).upd (fun k => w6.heap.size ≤ k)).grown hg9 fun k hk => .inl (hf8 k hk))
  have HD9 := Lib.hid (HD6.out.fresh HU9.out)
  obtain ⟨A9, c9, e, -, -, -, hrow⟩ := ho9.rs
  obtain ⟨NL, hNL⟩ : ∃ NL, NL = listF s1 ++ listF s2 := ⟨_, rfl⟩
  rw [← hNL] at e hrow
  subst e
  have HR9 := Lib.hid hrow
  have hNLb : NL.length ≤ 8192 := by rw [hNL, List.length_append]; have := HLL.out; omega
  clear hNL hrow ho9 hg9 hf8
  go_wp2_with fail
  go_loopw [51] (fun i wr => ∃ k : Nat, k ≤ NL.length ∧ i = .int .i64 k ∧ Hid (DkS_ wA wr [(p, s2), (q, s1)]) ∧ Hid (Ext w9 wr)) (fun i _ => NL.length - (intOf i).toNat)
  case atStart => exact ⟨0, Nat.zero_le _, rfl, HD9, Lib.hid (Ext.refl _)⟩
  case round =>
    clear HD9
    obtain ⟨k, hk, rfl, HDk, HXk⟩ := hrel
    by_cases hlt : k < NL.length
    · obtain ⟨ad, rfl, hcell, hn⟩ := (HR9.out.keep (w' := wr) fun b _ hl => HXk.out.block b hl).str hlt
      have HN := Lib.hid hn
      obtain ⟨n, hnn⟩ : ∃ n, n = NL[k] := ⟨_, rfl⟩
      rw [← hnn] at hcell HN
      clear hn hnn
      go_wp2_with fail
      refine (HDk.out.look (i := 1) (Q := fun e w' => ∃ v, e = .returned (.tuple #[v, .int .i64 (findF s1 n)]) ∧ Rs kByte w' (fun _ => True) v (readF s1 n)) rfl fun M D hx => (Read_calls wr q M D s1 n hx HN.out).mono fun e w' ⟨v, h1, h2, h3⟩ => ⟨⟨v, h1, h2.all.rs⟩, h3⟩).mono ?_
      rintro e wa ⟨⟨va, rfl, hra⟩, HXa, HDa⟩
      obtain ⟨Aa, ca, ev, -, -, -, -⟩ := id hra
      obtain ⟨ma, hma⟩ : ∃ m, m = (readF s1 n).length := ⟨_, rfl⟩
      rw [← hma] at ev
      clear hma
      subst ev
      have HRa := Lib.hid hra
      clear hra
      go_wp2_with fail
      refine (HDa.out.look (i := 0) (Q := fun e w' => ∃ v, e = .returned (.tuple #[v, .int .i64 (findF s2 n)]) ∧ Rs kByte w' (fun _ => True) v (readF s2 n)) rfl fun M D hx => (Read_calls wa p M D s2 n hx HN.out).mono fun e w' ⟨v, h1, h2, h3⟩ => ⟨⟨v, h1, h2.all.rs⟩, h3⟩).mono ?_
      rintro e wb ⟨⟨vb, rfl, hrb⟩, HXb, HDb⟩
      obtain ⟨Ab, cb, ev, -, -, -, -⟩ := id hrb
      obtain ⟨mb, hmb⟩ : ∃ m, m = (readF s2 n).length := ⟨_, rfl⟩
      rw [← hmb] at ev
      clear hmb
      subst ev
      have HRb := Lib.hid hrb
      clear hrb
      have HRa2 := Lib.hid (HRa.out.ext HXb.out)
      have HXf := Lib.hid ((HXk.out.trans HXa.out).trans HXb.out)
      obtain ⟨x0, x1, x2, x3, x4, x5, x6, x7⟩ := do_cells (blk_ext HG.out HDb.out.ext)
      have hgl := blk_lt (blk_ext HG.out HDb.out.ext)
      have ho : wrap64 ((IntKind.u64.wrap d.op).tmod 10) = op10 d.op := rfl
      clear HRa HXa HXb HXk
      by_cases hg1 : n = d.name
      · have hg1b : (n == d.name) = true := beq_iff_eq.2 hg1
        go_wp2_with fail
        go_roundw
        case rel => exact ⟨k + 1, by omega, by go_num, HDb, HXf⟩
        case measure => simp [intOf]; omega
      · have hg1b : (n == d.name) = false := beq_eq_false_iff_ne.2 hg1
        by_cases hg2 : n = d.to
        · subst hg2
          by_cases hg3 : op10 d.op = 4
          · go_wp2_with fail
            go_roundw
            case rel => exact ⟨k + 1, by omega, by go_num, HDb, HXf⟩
            case measure => simp [intOf]; omega
          · have ho4 : (op10 d.op != 4) = true := bne_iff_ne.2 hg3
            have ho5 : (op10 d.op == 4) = false := beq_eq_false_iff_ne.2 hg3
            obtain ⟨hap1, hap2⟩ := HAP.out d.to hg1 (.inr hg3)
            rw [hap1]
            rw [hap2] at HRb
            have hne : (findF s1 d.to != findF s1 d.to) = false := by simp
            clear hap1 hap2
            go_wp2_with fail
            refine (Equal_same wb _ _ _ _ _ HRa2.out HRb.out).mono ?_
            rintro e w' ⟨rfl, rfl⟩
            go_wp2_with fail
            go_roundw
            case rel => exact ⟨k + 1, by omega, by go_num, HDb, HXf⟩
            case measure => simp [intOf]; omega
        · have hg2b : (n == d.to) = false := beq_eq_false_iff_ne.2 hg2
          obtain ⟨hap1, hap2⟩ := HAP.out n hg1 (.inl hg2)
          rw [hap1]
          rw [hap2] at HRb
          have hne : (findF s1 n != findF s1 n) = false := by simp
          clear hap1 hap2
          go_wp2_with fail
          refine (Equal_same wb _ _ _ _ _ HRa2.out HRb.out).mono ?_
          rintro e w' ⟨rfl, rfl⟩
          go_wp2_with fail
          go_roundw
          case rel => exact ⟨k + 1, by omega, by go_num, HDb, HXf⟩
          case measure => simp [intOf]; omega

    · obtain rfl : k = NL.length := by omega
      clear hlt
      go_wp2_with fail
      refine (awake_calls wr).mono ?_
      rintro e wz ⟨rfl, hx⟩
      have HXZ := Lib.hid ((HXA.out.trans HDk.out.ext).trans hx)
      clear hx
      go_wp2_with fail
      go_ret
      exact ⟨rfl, HXZ.out⟩

end Go.Proofs.Ytjjhmknlhfijjaa
