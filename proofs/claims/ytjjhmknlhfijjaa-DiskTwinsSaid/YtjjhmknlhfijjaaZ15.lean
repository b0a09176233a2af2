/-
  Texts of this claim, put together: DskSame, DiskRoom.
-/
import Derived.Test.YtjjhmknlhfijjaaZ12
import Derived.Test.YtjjhmknlhfijjaaZ13
import Derived.Test.YtjjhmknlhfijjaaZ3
set_option linter.unusedVariables false
set_option linter.unusedSimpArgs false
namespace Go.Proofs.Ytjjhmknlhfijjaa
open Go.RowKit

set_option maxRecDepth 100000 in
set_option maxHeartbeats 4000000 in
theorem same_ext (w0 w : World) (ps : List (Nat × DkS)) (i j p q : Nat) (s t : DkS) (h : DkS_ w0 w ps) (hi : ps[i]? = some (p, s)) (hj : ps[j]? = some (q, t)) (ho : s.off = t.off) (hs : s.seen = t.seen) :
    Calls Try.prog 44 #[ptr p, ptr q] w fun e w' => e = .returned (.bool true) ∧ Ext w w' := by
  have HH := Lib.hid h
  have HI := Lib.hid hi
  have HJ := Lib.hid hj
  have HL := Lib.hid (seen_list ho hs)
  have HF := Lib.hid (fun n => seen_find ho hs n)
  have HB := Lib.hid (fun n => seen_read ho hs n)
  clear h hi hj ho hs
  unfold ptr
  go_enter Try.func44, Try.ntmps44
  go_wp2_with fail
  refine (HH.out.look (Q := fun e w' => ∃ v, e = .returned v ∧ Ow kStr 9 w' w.heap.size (w.heap.size ≤ ·) v (listF s)) HI.out fun M D hx => (List_calls w p M D s hx).mono fun e w' ⟨v, h1, h2, h3⟩ => ⟨⟨v, h1, h2⟩, h3⟩).mono ?_
  rintro e w1 ⟨⟨v, rfl, ho1⟩, HX1, HD1⟩
  have HO1 := Lib.hid ho1.rs
  clear ho1
  obtain ⟨A1, c1, rfl, -, -, hlz, -⟩ := HO1.out
  go_wp2_with fail
  refine (HD1.out.look (Q := fun e w' => ∃ v, e = .returned v ∧ Ow kStr 9 w' w1.heap.size (w1.heap.size ≤ ·) v (listF t)) HJ.out fun M D hx => (List_calls w1 q M D t hx).mono fun e w' ⟨v, h1, h2, h3⟩ => ⟨⟨v, h1, h2⟩, h3⟩).mono ?_
  rintro e w2 ⟨⟨v2, rfl, ho2⟩, HX2, HD2⟩
  rw [HL.out] at ho2
  have HO2 := Lib.hid ho2.rs
  have HO3 := Lib.hid (HO1.out.ext HX2.out)
  clear ho2
  go_wp2_with fail
  refine (EqualS_same w2 _ _ _ _ _ HO3.out HO2.out).mono ?_
  rintro e w3 ⟨rfl, hx3⟩
  have HD3 := Lib.hid (HD2.out.ext_ hx3)
  have HR := Lib.hid (HO3.out.ext hx3).shape.2.2.2.2
  have HXW := Lib.hid ((HX1.out.trans HX2.out).trans hx3)
  clear hx3 HO1 HO2 HO3 HD1 HD2 HX1 HX2
  go_wp2_with fail
  go_loopw [21] (fun i wr => ∃ k : Nat, k ≤ (listF s).length ∧ i = .int .i64 k ∧ Hid (DkS_ w0 wr ps) ∧ Hid (Ext w3 wr)) (fun i _ => (listF s).length - (intOf i).toNat)
  case atStart => exact ⟨0, Nat.zero_le _, rfl, HD3, Lib.hid (Ext.refl _)⟩
  case round =>
    clear HD3
    obtain ⟨k, hk, rfl, HDk, HXk⟩ := hrel
    by_cases hlt : k < (listF s).length
    · obtain ⟨ad, rfl, hcell, hn⟩ := (HR.out.keep (w' := wr) fun b _ hl => HXk.out.block b hl).str hlt
      have HN := Lib.hid hn
      generalize (listF s)[k] = n at *
      clear hn
      go_wp2_with fail
      refine (HDk.out.look (Q := fun e w' => ∃ v, e = .returned (.tuple #[v, .int .i64 (findF s n)]) ∧ Rs kByte w' (wr.heap.size ≤ ·) v (readF s n)) HI.out fun M D hx => (Read_calls wr p M D s n hx HN.out).mono fun e w' ⟨v, h1, h2, h3⟩ => ⟨⟨v, h1, h2.rs⟩, h3⟩).mono ?_
      rintro e w4 ⟨⟨v4, rfl, hr4⟩, HX4, HD4⟩
      have HR4 := Lib.hid hr4
      obtain ⟨A4, c4, rfl, -, -, -, -⟩ := hr4
      go_wp2_with fail
      refine (HD4.out.look (Q := fun e w' => ∃ v, e = .returned (.tuple #[v, .int .i64 (findF t n)]) ∧ Rs kByte w' (w4.heap.size ≤ ·) v (readF t n)) HJ.out fun M D hx => (Read_calls w4 q M D t n hx HN.out).mono fun e w' ⟨v, h1, h2, h3⟩ => ⟨⟨v, h1, h2.rs⟩, h3⟩).mono ?_
      rintro e w5 ⟨⟨v5, rfl, hr5⟩, HX5, HD5⟩
      rw [HF.out n]
      rw [HB.out n] at hr5
      have HR5 := Lib.hid hr5
      obtain ⟨A5, c5, rfl, -, -, -, -⟩ := hr5
      have HR6 := Lib.hid (HR4.out.ext HX5.out)
      have HXf := Lib.hid ((HXk.out.trans HX4.out).trans HX5.out)
      have hne : (findF s n != findF s n) = false := by simp
      clear HR4 HX4 HX5 HXk
      go_wp2_with fail
      refine (Equal_same w5 _ _ _ _ _ HR6.out HR5.out).mono ?_
      rintro e w6 ⟨rfl, rfl⟩
      go_wp2_with fail
      go_roundw
      case rel => exact ⟨k + 1, by omega, by go_num, HD5, HXf⟩
      case measure => simp [intOf]; omega
    · obtain rfl : k = (listF s).length := by omega
      clear hlt
      go_wp2_with fail
      go_ret
      exact ⟨rfl, HXW.out.trans HXk.out⟩
end Go.Proofs.Ytjjhmknlhfijjaa
set_option linter.unusedVariables false
set_option linter.unusedSimpArgs false
namespace Go.Proofs.Ytjjhmknlhfijjaa
open Go.RowKit

section
variable {w0 w w' : World} {ps qs : List (Nat × DkS)} {i p : Nat} {s : DkS} {K : Nat → Prop}
theorem DkK.drop (h : DkK w0 w (ps ++ qs) K) : DkK w0 w ps K := by
  obtain ⟨l, hl, hm, hK, hlt⟩ := h
  have get : ∀ (j : Nat) (y : DkE), (l.take ps.length)[j]? = some y → l[j]? = some y := fun j y hy => by
    rw [List.getElem?_take] at hy
    split at hy
    · exact hy
    · cases hy
  refine ⟨l.take ps.length, ⟨hl.ext, fun j y hy => hl.each j y (get j y hy), fun j y hy => hl.from_ j y (get j y hy), fun j k y z hy hz => hl.apart j k y z (get j y hy) (get k z hz)⟩, ?_, fun j y hy => hK j y (get j y hy), hlt⟩
  rw [List.map_take, hm, List.take_left' rfl]
theorem DkK.twin (h : DkK w0 w ps K) (hi : ps[i]? = some (p, s)) (hc : s.acts.length ≤ 1000000) : Calls Try.prog 27 #[ptr p] w fun e w' => ∃ q, e = .returned (ptr q) ∧ Hid (DkK w0 w' (ps ++ [(q, s)]) K) ∧ Hid (Ext w w') := by
  obtain ⟨l, hl, hm, hK, hlt⟩ := h
  obtain ⟨x, hx, hps⟩ : ∃ x, l[i]? = some x ∧ (x.p, x.s) = (p, s) := by
    rw [← hm, List.getElem?_map] at hi
    obtain ⟨x, hx, e⟩ := Option.map_eq_some_iff.1 hi
    exact ⟨x, hx, e⟩
  injection hps with e1 e2
  subst e1; subst e2
  refine (Twin_calls w x.p _ _ x.s (hl.each i x hx) hc).mono ?_
  rintro e w' ⟨q, M2, D2, rfl, h1, he, hM, hD⟩
  refine ⟨q, rfl, Lib.hid ⟨_, hl.push he h1 hM (fun k hk => ?_), by rw [List.map_append, hm]; rfl, fun j y hj k hk hk2 => ?_, fun k hk => Nat.lt_of_lt_of_le (hlt k hk) he.le⟩, Lib.hid he⟩
  · rcases hD k hk with h2 | h2
    · exact .inr ⟨i, x, hx, h2⟩
    · exact .inl h2
  · rcases Nat.lt_or_ge j l.length with h3 | h3
    · rw [List.getElem?_append_left h3] at hj
      exact hK j y hj k hk hk2
    · rw [List.getElem?_append_right h3] at hj
      rcases hz : j - l.length with _ | z
      · rw [hz] at hj
        simp at hj
        subst hj
        have := hM k hk
        have := hlt k hk2
        omega
      · rw [hz] at hj
        simp at hj
end
theorem used_le {s : DkS} (h : DkOk s) : usedF s ≤ s.room ∧ 0 ≤ usedF s := by
  have := h.room
  unfold usedF
  split
  · constructor <;> omega
  · constructor <;> omega
theorem push_code (s : DkS) (x : ActS) : (pushS s x).1 = 0 ∨ (pushS s x).1 = 22 := by
  unfold pushS
  split
  · exact .inr rfl
  · exact .inl rfl
/-- What is refused changes nothing. -/
theorem refused (s : DkS) (d : DoS) (h0 : (doesS s d).1 ≠ 0) (h22 : (doesS s d).1 ≠ 22) : (doesS s d).2 = s := by
  by_cases ha : IsAct d
  · rw [does_act ha] at h0 h22 ⊢
    split at h0
    · rcases push_code s (mkA d) with h | h
      · exact absurd h h0
      · rename_i hc
        rw [if_pos hc] at h22
        exact absurd h h22
    · rename_i hc
      rw [if_neg hc]
  · unfold doesS doesO at h0 h22 ⊢
    have hor : op10 d.op = 6 ∨ op10 d.op = 7 ∨ op10 d.op = 8 ∨ op10 d.op = 9 := by
      by_cases h6 : op10 d.op = 6
      · exact .inl h6
      · by_cases h7 : op10 d.op = 7
        · exact .inr (.inl h7)
        · by_cases h8 : op10 d.op = 8
          · exact .inr (.inr (.inl h8))
          · by_cases h9 : op10 d.op = 9
            · exact .inr (.inr (.inr h9))
            · exact absurd ⟨h6, h7, h8, h9⟩ ha
    rcases hor with h | h | h | h <;> rw [h] at h0 h22 ⊢ <;> simp only [show ¬ ((6 : Int) = 3) by decide, show ¬ ((6 : Int) = 4) by decide, show ¬ ((6 : Int) = 5) by decide, show ¬ ((7 : Int) = 3) by decide, show ¬ ((7 : Int) = 4) by decide, show ¬ ((7 : Int) = 5) by decide, show ¬ ((7 : Int) = 6) by decide, show ¬ ((8 : Int) = 3) by decide, show ¬ ((8 : Int) = 4) by decide, show ¬ ((8 : Int) = 5) by decide, show ¬ ((8 : Int) = 6) by decide, show ¬ ((8 : Int) = 7) by decide, show ¬ ((9 : Int) = 3) by decide, show ¬ ((9 : Int) = 4) by decide, show ¬ ((9 : Int) = 5) by decide, show ¬ ((9 : Int) = 6) by decide, show ¬ ((9 : Int) = 7) by decide, show ¬ ((9 : Int) = 8) by decide, if_false, if_true] at h0 h22 ⊢
    · unfold syncS at h0 h22 ⊢
      split at h0
      · rename_i ho; rw [if_pos ho]
      · rename_i ho
        rw [if_neg ho] at h22
        split at h0
        · rename_i hh; rw [if_pos hh] at h22; exact absurd rfl h22
        · exact absurd rfl h0
    · unfold armS at h0 h22 ⊢
      split at h0
      · rename_i ho; rw [if_pos ho]
      · exact absurd rfl h0
    · unfold crashS at h0 h22 ⊢
      split at h0
      · rename_i ho; rw [if_pos ho]
      · exact absurd rfl h0
    · exact absurd rfl h0
theorem find_code (s : DkS) (n : Nam) : findF s n = 0 ∨ findF s n = 20 ∨ findF s n = 21 ∨ findF s n = 22 := by
  unfold findF
  rcases s.off <;> rcases mayF n <;> rcases (getK s.seen n).isSome <;> simp
/-- No room: why. -/
theorem full (s : DkS) (d : DoS) (h : (doesS s d).1 = 7) : s.off = false ∧ (s.room - s.used < d.b.length ∨ 4096 ≤ s.seen.length) := by
  have hpc := push_code s (mkA d)
  have hfc := find_code s d.name
  by_cases ha : IsAct d
  · rw [does_act ha] at h
    split at h
    · omega
    · have h' : codeF s d = 7 := h
      unfold codeF trimF moveF at h'
      split at h'
      · split at h'
        · split at h' <;> omega
        · omega
      · split at h'
        · split at h'
          · split at h' <;> omega
          · omega
        · split at h'
          · omega
          · unfold writeF at h'
            split at h'
            · rename_i hc
              refine ⟨(find_file.1 hc.1).1, ?_⟩
              split at h'
              · rename_i h4; exact .inr h4
              · split at h'
                · rename_i h5; exact .inl h5
                · omega
            · split at h'
              · rename_i hc
                refine ⟨(find_iff.1 hc).1, ?_⟩
                split at h'
                · omega
                · split at h'
                  · rename_i h5; exact .inl h5
                  · omega
              · omega
  · exfalso
    unfold doesS doesO at h
    unfold IsAct at ha
    split at h
    · exact ha ⟨by omega, by omega, by omega, by omega⟩
    split at h
    · exact ha ⟨by omega, by omega, by omega, by omega⟩
    split at h
    · exact ha ⟨by omega, by omega, by omega, by omega⟩
    split at h
    · unfold syncS at h
      split at h
      · simp at h
      · split at h <;> simp at h
    split at h
    · unfold armS at h
      split at h <;> simp at h
    split at h
    · unfold crashS at h
      split at h <;> simp at h
    split at h
    · simp at h
    · rename_i h3 h4 h5 h6 h7 h8 h9
      exact ha ⟨h6, h7, h8, h9⟩
theorem sum_take (L : KL Nam) (k : Nat) (h : k < L.length) : sumK (L.take (k + 1)) = sumK (L.take k) + L[k].2.length := by
  rw [List.take_succ_eq_append_getElem h]
  unfold sumK
  rw [List.map_append, List.sum_append]
  simp only [List.map_cons, List.map_nil, List.sum_cons, List.sum_nil, Nat.add_zero]
theorem sum_take_le (L : KL Nam) (k : Nat) : sumK (L.take k) ≤ sumK L := by
  have h1 : sumK L = sumK (L.take k ++ L.drop k) := by rw [List.take_append_drop]
  rw [h1]
  unfold sumK
  rw [List.map_append, List.sum_append]
  omega
theorem rise_bytes {L : KL Nam} (h : riseK L) {k : Nat} (hk : k < L.length) : bytesK L L[k].1 = L[k].2 := by
  unfold bytesK
  rw [(getK_iff h).2 (show (L[k].1, L[k].2) ∈ L from List.getElem_mem hk)]
  rfl
def room3000 (x : Int) : Int := wrap64 ((IntKind.u64.wrap x).tmod 3000)
theorem room3000_le (r : Int) : 0 ≤ room3000 r ∧ room3000 r < 3000 := by
  unfold room3000
  have hq : 0 ≤ IntKind.u64.wrap r := by rw [IntKind.wrap_u64]; omega
  rw [Int.tmod_eq_emod_of_nonneg hq]
  have h3 := Int.emod_nonneg (IntKind.u64.wrap r) (show (3000 : Int) ≠ 0 by omega)
  have h4 := Int.emod_lt_of_pos (IntKind.u64.wrap r) (show (0 : Int) < 3000 by omega)
  generalize (IntKind.u64.wrap r) % 3000 = x at h3 h4
  rw [IntWalk.wrap64_in _ (by omega)]
  omega
set_option maxRecDepth 100000 in
set_option maxHeartbeats 1600000 in
theorem DiskRoom_walk (w : World) (room : Int) (hroom : -9223372036854775808 ≤ room ∧ room ≤ 9223372036854775807) (S1 : Nat → Prop) (v1 : Value) (m : List DoS) (h1 : Rs kDDo w S1 v1 m) :
    Calls Try.prog 12 #[.int .i64 room, v1] w fun e w' => e = .returned (.bool true) ∧ Ext w w' := by
  obtain ⟨A2, c2, e, -, -, -, hrw⟩ := id h1.under
  subst e
  have HRW := Lib.hid hrw
  have HL2 := Lib.hid h1
  clear h1 hrw hroom
  have hrm : wrap64 ((IntKind.u64.wrap room).tmod 3000) = room3000 room := rfl
  have HRM := Lib.hid (room3000_le room)
  go_enter Try.func12, Try.ntmps12
  go_wp2_with fail
  refine (short_calls w _ _ m HL2.out).mono ?_
  rintro e w' ⟨rfl, rfl⟩
  by_cases hs2 : shortF m = true
  case neg =>
    have hs' : shortF m = false := by simpa using hs2
    rw [hs']
    clear hs2 hs'
    go_wp2_with fail
    refine (awake_calls w).mono ?_
    rintro e wz ⟨rfl, hx⟩
    have HXZ := Lib.hid ((Ext.refl w).trans hx)
    clear hx
    go_wp2_with fail
    go_ret
    exact ⟨rfl, HXZ.out⟩

  have HSL2 := Lib.hid (short_len hs2)
  rw [hs2]
  clear hs2
  go_wp2_with fail
  try rw [hrm]
  clear hrm
  refine ((DkS_.nil w).new_ HRM.out.1 (by have := HRM.out.2; omega)).mono ?_
  rintro e w1 ⟨p, rfl, HD1, -⟩
  unfold ptr
  obtain ⟨r, hr⟩ : ∃ r, r = room3000 room := ⟨_, rfl⟩
  rw [← hr] at HRM HD1 ⊢
  have hrr := HRM.out
  clear hr
  simp only [List.nil_append] at HD1
  go_wp2_with fail
  go_loopw [33] (fun i wr => ∃ (k : Nat) (s : DkS), k ≤ m.length ∧ i = .int .i64 k ∧ Hid (DkS_ w wr [(p, s)]) ∧ Hid (s.room = r ∧ s.acts.length ≤ k)) (fun i _ => m.length - (intOf i).toNat)
  case atStart => exact ⟨0, newS r, Nat.zero_le _, rfl, HD1, Lib.hid ⟨rfl, Nat.le_refl _⟩⟩
  case round =>
    clear HD1
    obtain ⟨k, s, hk, rfl, HDk, HSR⟩ := hrel
    have hmb : m.length ≤ 120 := HSL2.out
    by_cases hlt : k < m.length
    · obtain ⟨ad, Ab, cb, rfl, hbl, hi, hb, x0, x1, x2, x3, x4, x5, x6, x7⟩ := (HRW.out.keep (w' := wr) fun b _ hl => HDk.out.ext.block b hl).ddo hlt
      have HI := Lib.hid hi
      have HB := Lib.hid hb
      obtain ⟨d, hdd⟩ : ∃ d, d = m[k] := ⟨_, rfl⟩
      rw [← hdd] at HI HB x0 x1 x2 x3 x4 x5 x6 x7
      have HDD := Lib.hid hdd
      clear hi hb hdd
      go_upto_region 10 with fail
      obtain ⟨w2, hw2⟩ : ∃ w2, w2 = wr.alloc (.cells (doC d (.slice Ab d.b.length cb)) 43) := ⟨_, rfl⟩
      obtain ⟨g, hg⟩ : ∃ g, g = wr.heap.size := ⟨_, rfl⟩
      have hx2 : Ext wr w2 := by rw [hw2]; exact (Ext.refl _).alloc _
      have hb2 := HB.out.ext hx2
      have hg2 : w2.heap[g]? = some (.cells (doC d (.slice Ab d.b.length cb)) 43 (0, 0)) := by rw [hw2]; exact heap_new wr g hg.symm _
      have hk2 := HDk.out.box hx2
      have hbox : BoxD w2 (BoxK w wr w2) g d Ab cb := ⟨.inr ⟨by omega, blk_lt hg2⟩, hg2, hb2.mono fun k hk => .inl hk, HI.out⟩
      obtain ⟨K0, hK0⟩ : ∃ K0, K0 = BoxK w wr w2 := ⟨_, rfl⟩
      rw [← hK0] at hk2 hbox
      have HK2 := Lib.hid hk2
      have HBX2 := Lib.hid hbox
      unfold doC at hw2
      rw [← hw2, ← hg]
      clear hw2 hg hx2 hb2 hg2 hk2 hbox hK0 x0 x1 x2 x3 x4 x5 x6 x7
      obtain ⟨x0, x1, x2, x3, x4, x5, x6, x7⟩ := do_cells HBX2.out.blk
      have hgl := blk_lt HBX2.out.blk
      have HLA := Lib.hid (show s.acts.length ≤ 1000000 by have := HSR.out.2; omega)
      go_wp2_with fail
      refine (HK2.out.twin (i := 0) rfl HLA.out).mono ?_
      rintro e w3 ⟨q, rfl, HK3, HX3⟩
      change Hid (DkK w w3 [(p, s), (q, s)] K0) at HK3
      have HBX3 := Lib.hid (HBX2.out.ext HX3.out)
      unfold ptr
      clear x0 x1 x2 x3 x4 x5 x6 x7 hgl
      obtain ⟨x0, x1, x2, x3, x4, x5, x6, x7⟩ := do_cells HBX3.out.blk
      have hgl := blk_lt HBX3.out.blk
      have HOK := Lib.hid (HK3.out.ok (i := 0) rfl)
      obtain ⟨cc, hcc⟩ : ∃ cc, cc = (doesS s d).1 := ⟨_, rfl⟩
      obtain ⟨s2, hs2⟩ : ∃ s2, s2 = (doesS s d).2 := ⟨_, rfl⟩
      have HREF := Lib.hid (show cc ≠ 0 → cc ≠ 22 → s2 = s by rw [hcc, hs2]; exact refused s d)
      have HFULL := Lib.hid (show cc = 7 → s.off = false ∧ (s.room - s.used < d.b.length ∨ 4096 ≤ s.seen.length) by rw [hcc]; exact full s d)
      have HS2 := Lib.hid (show s2.room = r ∧ s2.acts.length ≤ k + 1 by
        rw [hs2]
        exact ⟨(does_room s d).trans HSR.out.1, by have h1 := does_len s d; have h2 := HSR.out.2; omega⟩)
      have HE := Lib.hid (show doesS s d = (cc, s2) by rw [hcc, hs2])
      clear hcc hs2
      go_wp2_with fail
      refine (HK3.out.op2 (i := 0) rfl (fun M D hX => does_calls w3 p M D _ _ d _ hX HBX3.out.ok HBX3.out.bytes HLA.out)).mono ?_
      rw [HE.out]
      rintro e w4 ⟨rfl, HK4, HKB4⟩
      change Hid (DkK w w4 [(p, s2), (q, s)] K0) at HK4
      have HBX4 := Lib.hid (HBX3.out.kept HKB4.out)
      clear x0 x1 x2 x3 x4 x5 x6 x7 hgl
      obtain ⟨x0, x1, x2, x3, x4, x5, x6, x7⟩ := do_cells HBX4.out.blk
      have hgl := blk_lt HBX4.out.blk
      have HOK2 := Lib.hid (HK4.out.ok (i := 0) rfl)
      go_wp2_with fail
      refine (HK4.out.look2 (i := 0) (Q := fun e w' => e = .returned (.int .i64 (usedF s2))) rfl fun M D hx => (Used_calls w4 p M D _ hx)).mono ?_
      rintro e w5 ⟨rfl, HX5, HK5⟩
      have HBX5 := Lib.hid (HBX4.out.ext HX5.out)
      obtain ⟨u2, hu2⟩ : ∃ u2, u2 = usedF s2 := ⟨_, rfl⟩
      rw [← hu2]
      have hu3 : u2 ≤ r ∧ 0 ≤ u2 := by rw [hu2, ← HS2.out.1]; exact used_le HOK2.out
      have hud : decide (r < u2) = false := decide_eq_false (by omega)
      have HU2 := Lib.hid hu2
      clear hu2
      clear x0 x1 x2 x3 x4 x5 x6 x7 hgl
      by_cases hc0 : cc = 0 ∨ cc = 22
      · have hc7b : (cc == 7) = false := beq_eq_false_iff_ne.2 (by omega)
        have hcg : ((cc != 0) && (cc != 22)) = false := by rcases hc0 with rfl | rfl <;> rfl
        rcases hc0 with rfl | rfl
        · go_wp2_with fail
          go_quiet (fail)
          obtain ⟨w6, hw6⟩ : ∃ w6, w6 = w5.drewN nq := ⟨_, rfl⟩
          have HD6 := Lib.hid (show DkS_ w w6 [(p, s2)] by rw [hw6]; exact (HK5.out.ext_ ((Ext.refl w5).drewN nq)).drop (qs := [(q, s)]) |>.t)
          rw [← hw6]
          clear hw6
          go_wp2_with fail
          go_roundw
          case rel => exact ⟨k + 1, s2, by omega, by go_num, HD6, Lib.hid ⟨HS2.out.1, HS2.out.2⟩⟩
          case measure => simp [intOf]; omega
        · go_wp2_with fail
          go_quiet (fail)
          obtain ⟨w6, hw6⟩ : ∃ w6, w6 = w5.drewN nq := ⟨_, rfl⟩
          have HD6 := Lib.hid (show DkS_ w w6 [(p, s2)] by rw [hw6]; exact (HK5.out.ext_ ((Ext.refl w5).drewN nq)).drop (qs := [(q, s)]) |>.t)
          rw [← hw6]
          clear hw6
          go_wp2_with fail
          go_roundw
          case rel => exact ⟨k + 1, s2, by omega, by go_num, HD6, Lib.hid ⟨HS2.out.1, HS2.out.2⟩⟩
          case measure => simp [intOf]; omega

      have hc0b : (cc != 0) = true := bne_iff_ne.2 fun e => hc0 (.inl e)
      have hc2b : (cc != 22) = true := bne_iff_ne.2 fun e => hc0 (.inr e)
      have hs2s : s2 = s := HREF.out (fun e => hc0 (.inl e)) (fun e => hc0 (.inr e))
      subst hs2s
      clear hc0
      go_wp2_with fail
      refine (same_ext w w5 _ 1 0 q p _ _ HK5.out.t rfl rfl rfl rfl).mono ?_
      rintro e w6 ⟨rfl, hx6⟩
      have HK6 := Lib.hid (HK5.out.ext_ hx6)
      have HBX6 := Lib.hid (HBX5.out.ext hx6)
      clear hx6
      go_wp2_with fail
      refine (HK6.out.look2 (i := 1) (Q := fun e w' => e = .returned (.int .i64 (pendF s2))) rfl fun M D hx => (Pending_calls w6 q M D _ hx).mono fun e w' ⟨h1, h2⟩ => ⟨h1, h2 ▸ Ext.refl _⟩).mono ?_
      rintro e w7 ⟨rfl, HX7, HK7⟩
      go_wp2_with fail
      refine (HK7.out.look2 (i := 0) (Q := fun e w' => e = .returned (.int .i64 (pendF s2))) rfl fun M D hx => (Pending_calls w7 p M D _ hx).mono fun e w' ⟨h1, h2⟩ => ⟨h1, h2 ▸ Ext.refl _⟩).mono ?_
      rintro e w8 ⟨rfl, HX8, HK8⟩
      have HBX8 := Lib.hid ((HBX6.out.ext HX7.out).ext HX8.out)
      have hpn : (pendF s2 != pendF s2) = false := by simp
      by_cases hc7 : cc = 7
      case neg =>
        have hc7b : (cc == 7) = false := beq_eq_false_iff_ne.2 hc7
        clear hc7
        go_wp2_with fail
        go_quiet (fail)
        obtain ⟨w9, hw9⟩ : ∃ w9, w9 = w8.drewN nq := ⟨_, rfl⟩
        have HD9 := Lib.hid (show DkS_ w w9 [(p, s2)] by rw [hw9]; exact (HK8.out.ext_ ((Ext.refl w8).drewN nq)).drop (qs := [(q, s2)]) |>.t)
        rw [← hw9]
        clear hw9
        go_wp2_with fail
        go_roundw
        case rel => exact ⟨k + 1, s2, by omega, by go_num, HD9, Lib.hid ⟨HS2.out.1, HS2.out.2⟩⟩
        case measure => simp [intOf]; omega

      obtain ⟨hoff, hwhy⟩ := HFULL.out hc7
      subst hc7
      go_upto_region 14 with fail
      obtain ⟨M1, D1, hx8⟩ := HK8.out.t.x (i := 1) rfl
      have HX8 := Lib.hid hx8
      have HSg := Lib.hid (show ∀ W : World, Ext w8 W → Ext w8 W ∧ W.cell? ⟨g, 4, none⟩ = some (.slice Ab d.b.length cb) from fun W he => ⟨he, (do_cells (HBX8.out.ext he).blk).2.2.2.2.1⟩)
      have HDz := Lib.hid (fun (W : World) (he : Ext w8 W) => show DkS_ w W [(p, s2)] from ((HK8.out.ext_ he).drop (qs := [(q, s2)])).t)
      have hgl := blk_lt HBX8.out.blk
      have HUC := Lib.hid (show ∀ W : World, Ext w8 W → Calls Try.prog 30 #[.pointer (some ⟨q, 0, none⟩)] W fun e w' => e = .returned (.int .i64 u2) ∧ Ext W w' from fun W he => by rw [HU2.out]; exact Used_calls W q M1 D1 s2 (HX8.out.ext he))
      have HLC := Lib.hid (show ∀ W : World, Ext w8 W → Calls Try.prog 23 #[.pointer (some ⟨q, 0, none⟩)] W fun e w' => ∃ v, e = .returned v ∧ Ow kStr 9 w' W.heap.size (W.heap.size ≤ ·) v (listF s2) ∧ Ext W w' from fun W he => List_calls W q M1 D1 s2 (HX8.out.ext he))
      have hbl2 : d.b.length ≤ 140737488355328 := by obtain ⟨_, _, _, _, _, h, _⟩ := HBX8.out.bytes; exact h
      have hsum : IntKind.i64.wrap (u2 + (d.b.length : Int)) = u2 + (d.b.length : Int) := IntWalk.i64_in _ (by omega)
      have huse : s2.used = u2 := by rw [HU2.out]; unfold usedF; rw [hoff]; rfl
      have HRR := Lib.hid HS2.out.1
      clear hx8 hc0b hc2b
      by_cases hle : r < u2 + (d.b.length : Int)
      · have hld : decide (u2 + (d.b.length : Int) ≤ r) = false := decide_eq_false (by omega)
        have hbo : ∀ W : World, (binOp .leq 3 (.int .i64 (u2 + (d.b.length : Int))) (.int .i64 r)).run Try.prog W = .ok (.bool false) W := fun W => by
          have e : binOp .leq 3 (.int .i64 (u2 + (d.b.length : Int))) (.int .i64 r) = pure (.bool (decide (u2 + (d.b.length : Int) ≤ r))) := binOp_leq ..
          rw [e, hld]
          rfl
        clear hwhy huse
        have H0 := Lib.hid (HSg.out _ (Ext.refl w8).drew)
        refine wpF_region (fun W => Ext w8 W ∧ W.cell? ⟨g, 4, none⟩ = some (.slice Ab d.b.length cb)) (fun _ => True) 99 18 (by kernel_rfl) (by kernel_rfl) ?_
        refine wpF_take0 (i := 0) (v := ?v1) rfl (by kernel_rfl) (by kernel_rfl) (by kernel_rfl) (fun _ _ _ h => h) (by kernel_rfl) (Or.inl ⟨by rfl, ?hy1⟩) H0.out (fun _ => trivial) ?rest1
        case hy1 => (intro W hSW; (try dsimp only at hSW); go_simp; (try with_reducible rfl))
        (try simp only [Act.put, List.setIfInBounds_toArray, List.set_cons_zero, List.set_cons_succ])
        refine wpF_take0 (i := 1) (v := ?v2) rfl (by kernel_rfl) (by kernel_rfl) (by kernel_rfl) (fun _ _ _ h => h) (by kernel_rfl) (Or.inl ⟨by rfl, ?hy2⟩) H0.out (fun _ => trivial) ?rest2
        case hy2 => (intro W hSW; (try dsimp only at hSW); go_simp; (try with_reducible rfl))
        (try simp only [Act.put, List.setIfInBounds_toArray, List.set_cons_zero, List.set_cons_succ])
        refine wpF_take0 (i := 2) (v := ?v3) rfl (by kernel_rfl) (by kernel_rfl) (by kernel_rfl) (fun _ _ _ h => h) (by kernel_rfl) (Or.inl ⟨by rfl, ?hy3⟩) H0.out (fun _ => trivial) ?rest3
        case hy3 => (intro W hSW; (try dsimp only at hSW); go_simp; (try with_reducible rfl))
        (try simp only [Act.put, List.setIfInBounds_toArray, List.set_cons_zero, List.set_cons_succ])
        refine wpF_take0 (i := 3) (v := ?v4) rfl (by kernel_rfl) (by kernel_rfl) (by kernel_rfl) (fun _ _ _ h => h) (by kernel_rfl) (Or.inl ⟨by rfl, ?hy4⟩) H0.out (fun _ => trivial) ?rest4
        case hy4 => (intro W hSW; (try dsimp only at hSW); go_simp; (try with_reducible rfl))
        (try simp only [Act.put, List.setIfInBounds_toArray, List.set_cons_zero, List.set_cons_succ])
        refine wpF_take0 (i := 5) (v := ?v5) rfl (by kernel_rfl) (by kernel_rfl) (by kernel_rfl) (fun _ _ _ h => h) (by kernel_rfl) (Or.inl ⟨by rfl, ?hy5⟩) H0.out (fun _ => trivial) ?rest5
        case hy5 => (intro W hSW; (try dsimp only at hSW); go_simp; (try with_reducible rfl))
        (try simp only [Act.put, List.setIfInBounds_toArray, List.set_cons_zero, List.set_cons_succ])
        refine wpF_take0 (i := 6) (v := ?v6) rfl (by kernel_rfl) (by kernel_rfl) (by kernel_rfl) (fun _ _ _ h => h) (by kernel_rfl) (Or.inl ⟨by rfl, ?hy6⟩) H0.out (fun _ => trivial) ?rest6
        case hy6 => (intro W hSW; (try dsimp only at hSW); go_simp; (try with_reducible rfl))
        (try simp only [Act.put, List.setIfInBounds_toArray, List.set_cons_zero, List.set_cons_succ])
        refine wpF_take0 (i := 7) (v := ?v7) rfl (by kernel_rfl) (by kernel_rfl) (by kernel_rfl) (fun _ _ _ h => h) (by kernel_rfl) (Or.inl ⟨by rfl, ?hy7⟩) H0.out (fun _ => trivial) ?rest7
        case hy7 => (intro W hSW; (try dsimp only at hSW); go_simp; (try with_reducible rfl))
        (try simp only [Act.put, List.setIfInBounds_toArray, List.set_cons_zero, List.set_cons_succ])
        refine wpF_take0 (i := 9) (v := ?v8) rfl (by kernel_rfl) (by kernel_rfl) (by kernel_rfl) (fun _ _ _ h => h) (by kernel_rfl) (Or.inl ⟨by rfl, ?hy8⟩) H0.out (fun _ => trivial) ?rest8
        case hy8 => (intro W hSW; (try dsimp only at hSW); go_simp; (try with_reducible rfl))
        (try simp only [Act.put, List.setIfInBounds_toArray, List.set_cons_zero, List.set_cons_succ])
        refine wpF_step (i := 4) (by kernel_rfl) rfl (fun K hK => ?_)
        go_simp
        refine (HUC.out _ (Ext.refl _).drew).mono ?_
        rintro e wb ⟨rfl, he1⟩
        have HXB := Lib.hid (show Ext w8 wb from (Ext.refl _).drew.trans he1)
        have H1 := Lib.hid (HSg.out _ HXB.out)
        clear he1
        (try go_wp2_with fail)
        refine hK.out _ _ H1.out (fun _ => trivial) ?_
        clear hK K
        (try simp only [Act.put, List.setIfInBounds_toArray, List.set_cons_zero, List.set_cons_succ])
        refine wpF_take0 (i := 8) (v := ?v9) rfl (by kernel_rfl) (by kernel_rfl) (by kernel_rfl) (fun _ _ _ h => h) (by kernel_rfl) (Or.inl ⟨by rfl, ?hy9⟩) H1.out (fun _ => trivial) ?rest9
        case hy9 => (intro W hSW; (try dsimp only at hSW); go_simp; (try with_reducible rfl))
        (try simp only [Act.put, List.setIfInBounds_toArray, List.set_cons_zero, List.set_cons_succ])
        refine wpF_take0 (i := 10) (v := ?v10) rfl (by kernel_rfl) (by kernel_rfl) (by kernel_rfl) (fun _ _ _ h => h) (by kernel_rfl) (Or.inl ⟨by rfl, ?hy10⟩) H1.out (fun _ => trivial) ?rest10
        case hy10 => (intro W hSW; (try dsimp only at hSW); go_simp; (try with_reducible rfl))
        (try simp only [Act.put, List.setIfInBounds_toArray, List.set_cons_zero, List.set_cons_succ])
        refine wpF_take0 (i := 11) (v := ?v11) rfl (by kernel_rfl) (by kernel_rfl) (by kernel_rfl) (fun _ _ _ h => h) (by kernel_rfl) (Or.inl ⟨by rfl, ?hy11⟩) H1.out (fun _ => trivial) ?rest11
        case hy11 => (intro W hSW; (try dsimp only at hSW); go_simp; (try with_reducible rfl))
        (try simp only [Act.put, List.setIfInBounds_toArray, List.set_cons_zero, List.set_cons_succ])
        refine wpF_take0 (i := 12) (v := ?v12) rfl (by kernel_rfl) (by kernel_rfl) (by kernel_rfl) (fun _ _ _ h => h) (by kernel_rfl) (Or.inl ⟨by rfl, ?hy12⟩) H1.out (fun _ => trivial) ?rest12
        case hy12 => (intro W hSW; (try dsimp only at hSW); go_simp; (try with_reducible rfl))
        (try simp only [Act.put, List.setIfInBounds_toArray, List.set_cons_zero, List.set_cons_succ])
        refine wpF_take0 (i := 13) (v := undef) rfl (by kernel_rfl) (by kernel_rfl) (by kernel_rfl) (fun _ _ _ h => h) (by kernel_rfl) (Or.inr ⟨by rfl, rfl⟩) H1.out (fun _ => trivial) ?rest13
        (try simp only [Act.put, List.setIfInBounds_toArray, List.set_cons_zero, List.set_cons_succ])
        refine wpF_take0 (i := 14) (v := undef) rfl (by kernel_rfl) (by kernel_rfl) (by kernel_rfl) (fun _ _ _ h => h) (by kernel_rfl) (Or.inr ⟨by rfl, rfl⟩) H1.out (fun _ => trivial) ?rest14
        (try simp only [Act.put, List.setIfInBounds_toArray, List.set_cons_zero, List.set_cons_succ])
        refine wpF_take0 (i := 15) (v := undef) rfl (by kernel_rfl) (by kernel_rfl) (by kernel_rfl) (fun _ _ _ h => h) (by kernel_rfl) (Or.inr ⟨by rfl, rfl⟩) H1.out (fun _ => trivial) ?rest15
        (try simp only [Act.put, List.setIfInBounds_toArray, List.set_cons_zero, List.set_cons_succ])
        refine wpF_take0 (i := 16) (v := undef) rfl (by kernel_rfl) (by kernel_rfl) (by kernel_rfl) (fun _ _ _ h => h) (by kernel_rfl) (Or.inr ⟨by rfl, rfl⟩) H1.out (fun _ => trivial) ?rest16
        (try simp only [Act.put, List.setIfInBounds_toArray, List.set_cons_zero, List.set_cons_succ])
        refine wpF_take0 (i := 17) (v := ?v17) rfl (by kernel_rfl) (by kernel_rfl) (by kernel_rfl) (fun _ _ _ h => h) (by kernel_rfl) (Or.inl ⟨by rfl, ?hy17⟩) H1.out (fun _ => trivial) ?rest17
        case hy17 => (intro W hSW; (try dsimp only at hSW); go_simp; (try with_reducible rfl))
        (try simp only [Act.put, List.setIfInBounds_toArray, List.set_cons_zero, List.set_cons_succ])

        refine wpF_done (by kernel_rfl) ?_ _
        refine NoPanic.normal ?_
        have HD9 := Lib.hid (HDz.out _ HXB.out)
        clear hsum hld hle hbo
        go_wp2_with fail
        go_roundw
        case rel => exact ⟨k + 1, s2, by omega, by go_num, HD9, Lib.hid ⟨HS2.out.1, HS2.out.2⟩⟩
        case measure => simp [intOf]; omega

      · have hld : decide (u2 + (d.b.length : Int) ≤ r) = true := decide_eq_true (by omega)
        have h4096 : 4096 ≤ s2.seen.length := by
          rcases hwhy with h | h
          · rw [HRR.out] at h; omega
          · exact h
        obtain ⟨nl, hnl⟩ : ∃ nl, nl = (listF s2).length := ⟨_, rfl⟩
        have hnl2 : 4096 ≤ nl := by rw [hnl]; unfold listF; rw [hoff]; simpa using h4096
        have hnd : decide ((nl : Int) < 4096) = false := decide_eq_false (by omega)
        have HNL := Lib.hid hnl
        clear hle hwhy huse h4096 hnl hoff
        go_region_held3 (fun W => Ext w8 W ∧ W.cell? ⟨g, 4, none⟩ = some (.slice Ab d.b.length cb))
          (first | exact HSg.out _ (Ext.refl _).drew | exact HSg.out _ hxb | exact HSg.out _ hxc)
          (first | (go_at_call 30; (with_reducible refine (HUC.out _ (Ext.refl _).drew).mono ?_); rintro e wb ⟨rfl, he1⟩; have hxb : Ext w8 wb := (Ext.refl _).drew.trans he1) | (go_at_call 23; (with_reducible refine (HLC.out _ hxb).mono ?_); rintro e wc ⟨v9, rfl, ho9, he2⟩; obtain ⟨A9, c9, e9, -, -, -, -⟩ := ho9.rs; rw [← HNL.out] at e9; subst e9; have hxc : Ext w8 wc := hxb.trans he2))
        all_goals
          have HD9 := Lib.hid (HDz.out _ hxc)
          clear ho9 hxb hxc he1 he2 hsum hld hnd
          go_wp2_with fail
          go_roundw
          case rel => exact ⟨k + 1, s2, by omega, by go_num, HD9, Lib.hid ⟨HS2.out.1, HS2.out.2⟩⟩
          case measure => simp [intOf]; omega

    · obtain rfl : k = m.length := by omega
      clear hlt
      go_wp2_with fail
      refine (HDk.out.op (i := 0) rfl (fun M D hX => Start_calls wr p M D s hX)).mono ?_
      rintro e wa ⟨rfl, HDa⟩
      change Hid (DkS_ w wa [(p, startS s)]) at HDa
      go_wp2_with fail
      refine (HDa.out.op (i := 0) rfl (fun M D hX => Arm_calls wa p M D (startS s) 0 0 0 hX i0 i0 i0)).mono ?_
      rw [calm_code]
      rintro e wb ⟨rfl, HDb⟩
      change Hid (DkS_ w wb [(p, baseS s.room s.last s.acts)]) at HDb
      rw [HSR.out.1] at HDb
      have hA120 : s.acts.take 120 = s.acts := List.take_of_length_le (by have := HSR.out.2; omega)
      go_wp2_with fail
      refine (HDb.out.op (i := 0) rfl (fun M D hX => Crash_calls wb p M D _ 120 0 hX (by constructor <;> omega) i0)).mono ?_
      rw [show (crashS (baseS r s.last s.acts) 120 0).1 = 0 from rfl]
      rintro e wc ⟨rfl, HDc⟩
      change Hid (DkS_ w wc [(p, fallS (baseS r s.last s.acts) ((120 : Nat) : Int) 0)]) at HDc
      rw [base_fall, hA120] at HDc
      obtain ⟨L, hL⟩ : ∃ L, L = runA s.last s.acts := ⟨_, rfl⟩
      rw [← hL] at HDc
      clear hA120 hL HDa HDb HDk
      go_wp2_with fail
      refine (HDc.out.op (i := 0) rfl (fun M D hX => Start_calls wc p M D _ hX)).mono ?_
      rintro e wd ⟨rfl, HDd⟩
      change Hid (DkS_ w wd [(p, baseS r L [])]) at HDd
      have HOK := Lib.hid (HDd.out.ok (i := 0) rfl)
      have HLI := Lib.hid (show listF (baseS r L []) = L.map (·.1) from rfl)
      go_wp2_with fail
      refine (HDd.out.look (i := 0) (Q := fun e w' => ∃ v, e = .returned v ∧ Rs kStr w' (fun _ => True) v (listF (baseS r L []))) rfl fun M D hx => (List_calls wd p M D (baseS r L []) hx).mono fun e w' ⟨v, h1, h2, h3⟩ => ⟨⟨v, h1, h2.all.rs⟩, h3⟩).mono ?_
      rintro e we ⟨⟨ve, rfl, hre⟩, HXe, HDe⟩
      have HRe := Lib.hid hre
      obtain ⟨Ae, ce, rfl, -, -, -, -⟩ := hre
      rw [HLI.out] at HRe
      rw [HLI.out]
      have HRI := Lib.hid (show riseK L from HOK.out.rise)
      have HRO := Lib.hid (show sumK L ≤ 3000 by have h := HOK.out.room; have h2 : (baseS r L []).used = sumK L + 0 := rfl; rw [h2] at h; have h3 : (baseS r L []).room = r := rfl; omega)
      have HRW2 := Lib.hid HRe.out.shape.2.2.2.2
      have hLm : (L.map (·.1)).length = L.length := List.length_map ..
      rw [hLm]
      clear hLm HRe HDd HXe
      go_wp2_with fail
      go_loopw [11, 97] (fun nv i wr => ∃ k : Nat, k ≤ L.length ∧ i = .int .i64 k ∧ nv = .int .i64 ((sumK (L.take k) : Nat) : Int) ∧ Hid (DkS_ w wr [(p, baseS r L [])]) ∧ Hid (Ext we wr)) (fun _ i _ => L.length - (intOf i).toNat)
      case atStart => exact ⟨0, Nat.zero_le _, rfl, rfl, HDe, Lib.hid (Ext.refl _)⟩
      case round =>
        clear HDe
        obtain ⟨k, hk, rfl, rfl, HDk, HXk⟩ := hrel
        have hLb : L.length ≤ 4096 := HOK.out.files
        by_cases hlt : k < L.length
        · obtain ⟨ad, rfl, hcell, hn⟩ := (HRW2.out.keep (w' := wr) fun b _ hl => HXk.out.block b hl).str (j := k) (by simpa using hlt)
          simp only [List.getElem_map] at hcell hn
          have HN := Lib.hid hn
          have HSN := Lib.hid (sum_take L k hlt)
          have HLE := Lib.hid (sum_take_le L (k + 1))
          have HBY := Lib.hid (show (readF (baseS r L []) L[k].1).length = L[k].2.length by
            have hm := HOK.out.names L[k] (List.getElem_mem hlt)
            have hg : getK L L[k].1 = some L[k].2 := (getK_iff HRI.out).2 (List.getElem_mem hlt)
            have hf : findF (baseS r L []) L[k].1 = 0 := by
              rw [calm_find (base_calm r L []), if_pos hm]
              rw [show (baseS r L []).seen = L from rfl, hg]
              rfl
            unfold readF
            rw [if_pos hf]
            show (bytesK L L[k].1).length = _
            rw [rise_bytes HRI.out hlt])
          obtain ⟨n, hnn⟩ : ∃ n, n = L[k].1 := ⟨_, rfl⟩
          rw [← hnn] at hcell HN HBY
          obtain ⟨z, hz⟩ : ∃ z, z = L[k].2.length := ⟨_, rfl⟩
          rw [← hz] at HSN HBY
          have hsb : sumK (L.take k) + z ≤ 3000 := by have h1 := HSN.out; have h2 := HLE.out; have h3 := HRO.out; omega
          obtain ⟨y, hy⟩ : ∃ y, y = sumK (L.take k) := ⟨_, rfl⟩
          rw [← hy] at HSN hsb ⊢
          clear hn hnn hz hy
          go_wp2_with fail
          refine (HDk.out.look (i := 0) (Q := fun e w' => ∃ (A : Option Addr) (c : Nat), e = .returned (.tuple #[.slice A z c, .int .i64 (findF (baseS r L []) n)])) rfl fun M D hx => (Read_calls wr p M D _ n hx HN.out).mono fun e w' ⟨v, h1, h2, h3⟩ => by
            obtain ⟨A, c, e2, -⟩ := h2.rs
            rw [HBY.out] at e2
            subst e2
            exact ⟨⟨A, c, h1⟩, h3⟩).mono ?_
          rintro e w4 ⟨⟨A4, c4, rfl⟩, HX4, HD4⟩
          go_wp2_with fail
          go_roundw
          case rel => exact ⟨k + 1, by omega, by go_num, by rw [HSN.out]; go_num, HD4, Lib.hid (HXk.out.trans HX4.out)⟩
          case measure => simp [intOf]; omega

        · obtain rfl : k = L.length := by omega
          rw [List.take_length]
          clear hlt
          go_wp2_with fail
          refine (HDk.out.look (i := 0) (Q := fun e w' => e = .returned (.int .i64 (usedF (baseS r L [])))) rfl fun M D hx => (Used_calls wr p M D _ hx)).mono ?_
          rw [show usedF (baseS r L []) = (sumK L : Int) from rfl]
          rintro e w4 ⟨rfl, HX4, HD4⟩
          have hok : (sumK L : Int) ≤ r := by have h := HOK.out.room; have h2 : (baseS r L []).used = sumK L + 0 := rfl; rw [h2] at h; have h3 : (baseS r L []).room = r := rfl; omega
          have hokd : decide ((sumK L : Int) ≤ r) = true := decide_eq_true hok
          obtain ⟨y, hy⟩ : ∃ y, y = sumK L := ⟨_, rfl⟩
          rw [← hy] at hok hokd ⊢
          clear hy
          go_wp2_with fail
          refine (awake_calls w4).mono ?_
          rintro e wz ⟨rfl, hx⟩
          have HXZ := Lib.hid (HD4.out.ext.trans hx)
          clear hx
          go_wp2_with fail
          go_ret
          exact ⟨rfl, HXZ.out⟩

end Go.Proofs.Ytjjhmknlhfijjaa
