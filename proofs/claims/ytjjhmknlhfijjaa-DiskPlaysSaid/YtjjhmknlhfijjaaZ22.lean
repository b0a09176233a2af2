/-
  Texts of this claim, put together: DrTwo, DrAlike, DiskPlays.
-/
import Derived.Test.YtjjhmknlhfijjaaZ21
import Derived.Test.YtjjhmknlhfijjaaZ13
import Derived.Test.YtjjhmknlhfijjaaZ8
import Derived.Deep.DeepCutAuto
import Derived.Deep.CutBlock
import Derived.Test.YtjjhmknlhfijjaaZ7
set_option linter.unusedVariables false
set_option linter.unusedSimpArgs false
namespace Go.Proofs.Ytjjhmknlhfijjaa
open Go.RowKit

theorem RfX.ltM {w : World} {x : Nat} {M D : Nat → Prop} {s : DkS} (h : RfX w x M D s) : ∀ k, M k → k < w.heap.size := by
  obtain ⟨z, lv, av, h⟩ := h; exact h.ltM
theorem RfX.ltD {w : World} {x : Nat} {M D : Nat → Prop} {s : DkS} (h : RfX w x M D s) : ∀ k, D k → k < w.heap.size := by
  obtain ⟨z, lv, av, h⟩ := h; exact h.ltD
/-- A disk at p in state s, the reference's at x in state r; blocks of K are none of theirs. -/
structure TwoY (w0 w : World) (p x : Nat) (s r : DkS) (K M D A B : Nat → Prop) : Prop where
  ext : Ext w0 w
  disk : DkX w p M D s
  ref : RfX w x A B r
  from_ : ∀ k, (M k ∨ D k ∨ A k ∨ B k) → w0.heap.size ≤ k
  ap1 : ∀ k, M k → ¬ A k ∧ ¬ B k
  ap2 : ∀ k, A k → ¬ D k
  kept : ∀ k, K k → ¬ M k ∧ ¬ D k ∧ ¬ A k ∧ ¬ B k
  ltK : ∀ k, K k → k < w.heap.size
def Two (w0 w : World) (p x : Nat) (s r : DkS) (K : Nat → Prop) : Prop := ∃ M D A B, TwoY w0 w p x s r K M D A B
section
variable {w0 w w' : World} {p x : Nat} {s r s' r' : DkS} {K K' : Nat → Prop}
theorem Two.ext (h : Two w0 w p x s r K) : Ext w0 w := by obtain ⟨M, D, A, B, h⟩ := h; exact h.ext
theorem Two.ltK (h : Two w0 w p x s r K) : ∀ k, K k → k < w.heap.size := by obtain ⟨M, D, A, B, h⟩ := h; exact h.ltK
theorem Two.oks (h : Two w0 w p x s r K) : DkOk s := by obtain ⟨M, D, A, B, h⟩ := h; exact h.disk.ok
theorem Two.okr (h : Two w0 w p x s r K) : DkOk r := by obtain ⟨M, D, A, B, h⟩ := h; exact h.ref.ok
theorem Two.mono (h : Two w0 w p x s r K) (hK : ∀ k, K' k → K k) : Two w0 w p x s r K' := by
  obtain ⟨M, D, A, B, h⟩ := h
  exact ⟨M, D, A, B, h.ext, h.disk, h.ref, h.from_, h.ap1, h.ap2, fun k hk => h.kept k (hK k hk), fun k hk => h.ltK k (hK k hk)⟩
/-- Something has come: it is kept. -/
theorem Two.grow (h : Two w0 w p x s r K) (he : Ext w w') : Two w0 w' p x s r (fun k => K k ∨ (w.heap.size ≤ k ∧ k < w'.heap.size)) := by
  obtain ⟨M, D, A, B, h⟩ := h
  refine ⟨M, D, A, B, h.ext.trans he, h.disk.ext he, h.ref.ext he, h.from_, h.ap1, h.ap2, fun k hk => ?_, fun k hk => ?_⟩
  · rcases hk with hk | hk
    · exact h.kept k hk
    · exact ⟨fun h1 => by have := h.disk.ltM k h1; omega, fun h1 => by have := h.disk.ltD k h1; omega, fun h1 => by have := h.ref.ltM k h1; omega, fun h1 => by have := h.ref.ltD k h1; omega⟩
  · rcases hk with hk | hk
    · exact Nat.lt_of_lt_of_le (h.ltK k hk) he.le
    · exact hk.2
theorem Two.ext_ (h : Two w0 w p x s r K) (he : Ext w w') : Two w0 w' p x s r K := (h.grow he).mono fun _ h => .inl h
/-- Kept blocks have turned. -/
theorem Two.turn (h : Two w0 w p x s r K) {S : Nat → Prop} (hu : Upd S w w') (hS : ∀ k, S k → K k) (hf : ∀ k, S k → w0.heap.size ≤ k) : Two w0 w' p x s r K := by
  obtain ⟨M, D, A, B, h⟩ := h
  have n1 : ∀ k, M k → ¬ S k := fun k h1 h2 => (h.kept k (hS k h2)).1 h1
  have n2 : ∀ k, D k → ¬ S k := fun k h1 h2 => (h.kept k (hS k h2)).2.1 h1
  have n3 : ∀ k, A k → ¬ S k := fun k h1 h2 => (h.kept k (hS k h2)).2.2.1 h1
  have n4 : ∀ k, B k → ¬ S k := fun k h1 h2 => (h.kept k (hS k h2)).2.2.2 h1
  exact ⟨M, D, A, B, hu.ext h.ext hf, h.disk.upd hu n1 n2, h.ref.upd hu n3 n4, h.from_, h.ap1, h.ap2, h.kept, fun k hk => Nat.lt_of_lt_of_le (h.ltK k hk) hu.le⟩
theorem Two.opD {F : Nat} {args : Array Value} {E : Ending} (h : Two w0 w p x s r K) (hc : ∀ M D, DkX w p M D s → Calls Try.prog F args w fun e w' => e = E ∧ DkP w p M D w' s') :
    Calls Try.prog F args w fun e w' => e = E ∧ Hid (Two w0 w' p x s' r K) ∧ Hid (∀ k, K k → w'.heap[k]? = w.heap[k]?) := by
  obtain ⟨M, D, A, B, h⟩ := h
  refine (hc M D h.disk).mono ?_
  rintro e w' ⟨rfl, M', D', h1, hu, h2, h3⟩
  refine ⟨rfl, Lib.hid ⟨M', D', A, B, hu.ext h.ext fun k hk => h.from_ k (.inl hk), h1, h.ref.upd hu (fun k h4 h5 => (h.ap1 k h5).1 h4) (fun k h4 h5 => (h.ap1 k h5).2 h4), ?_, ?_, ?_, ?_, fun k hk => Nat.lt_of_lt_of_le (h.ltK k hk) hu.le⟩, Lib.hid fun k hk => hu.block k (h.ltK k hk) (h.kept k hk).1⟩
  · rintro k (hk | hk | hk)
    · rcases h2 k hk with h4 | h4
      · exact h.from_ k (.inl h4)
      · exact Nat.le_trans h.ext.le h4
    · rcases h3 k hk with h4 | h4
      · exact h.from_ k (.inr (.inl h4))
      · exact Nat.le_trans h.ext.le h4
    · exact h.from_ k (.inr (.inr hk))
  · intro k hk
    rcases h2 k hk with h4 | h4
    · exact h.ap1 k h4
    · exact ⟨fun h5 => by have := h.ref.ltM k h5; omega, fun h5 => by have := h.ref.ltD k h5; omega⟩
  · intro k hk hd
    rcases h3 k hd with h4 | h4
    · exact h.ap2 k hk h4
    · have := h.ref.ltM k hk; omega
  · intro k hk
    have hk4 := h.kept k hk
    have hkl := h.ltK k hk
    refine ⟨fun h5 => ?_, fun h5 => ?_, hk4.2.2⟩
    · rcases h2 k h5 with h4 | h4
      · exact hk4.1 h4
      · omega
    · rcases h3 k h5 with h4 | h4
      · exact hk4.2.1 h4
      · omega
theorem Two.opR {F : Nat} {args : Array Value} {E : Ending} (h : Two w0 w p x s r K) (hc : ∀ M D, RfX w x M D r → Calls Try.prog F args w fun e w' => e = E ∧ RfP w x M D w' r') :
    Calls Try.prog F args w fun e w' => e = E ∧ Hid (Two w0 w' p x s r' K) ∧ Hid (∀ k, K k → w'.heap[k]? = w.heap[k]?) := by
  obtain ⟨M, D, A, B, h⟩ := h
  refine (hc A B h.ref).mono ?_
  rintro e w' ⟨rfl, A', B', h1, hu, h2, h3⟩
  refine ⟨rfl, Lib.hid ⟨M, D, A', B', hu.ext h.ext fun k hk => h.from_ k (.inr (.inr (.inl hk))), h.disk.upd hu (fun k h4 h5 => (h.ap1 k h4).1 h5) (fun k h4 h5 => h.ap2 k h5 h4), h1, ?_, ?_, ?_, ?_, fun k hk => Nat.lt_of_lt_of_le (h.ltK k hk) hu.le⟩, Lib.hid fun k hk => hu.block k (h.ltK k hk) (h.kept k hk).2.2.1⟩
  · rintro k (hk | hk | hk | hk)
    · exact h.from_ k (.inl hk)
    · exact h.from_ k (.inr (.inl hk))
    · rcases h2 k hk with h4 | h4
      · exact h.from_ k (.inr (.inr (.inl h4)))
      · exact Nat.le_trans h.ext.le h4
    · rcases h3 k hk with h4 | h4
      · exact h.from_ k (.inr (.inr (.inr h4)))
      · exact Nat.le_trans h.ext.le h4
  · intro k hk
    refine ⟨fun h5 => ?_, fun h5 => ?_⟩
    · rcases h2 k h5 with h4 | h4
      · exact (h.ap1 k hk).1 h4
      · have := h.disk.ltM k hk; omega
    · rcases h3 k h5 with h4 | h4
      · exact (h.ap1 k hk).2 h4
      · have := h.disk.ltM k hk; omega
  · intro k hk hd
    rcases h2 k hk with h4 | h4
    · exact h.ap2 k h4 hd
    · have := h.disk.ltD k hd; omega
  · intro k hk
    have hk4 := h.kept k hk
    have hkl := h.ltK k hk
    refine ⟨hk4.1, hk4.2.1, fun h5 => ?_, fun h5 => ?_⟩
    · rcases h2 k h5 with h4 | h4
      · exact hk4.2.2.1 h4
      · omega
    · rcases h3 k h5 with h4 | h4
      · exact hk4.2.2.2 h4
      · omega
theorem Two.lookD {F : Nat} {args : Array Value} {Q : Ending → World → Prop} (h : Two w0 w p x s r K) (hc : ∀ M D, DkX w p M D s → Calls Try.prog F args w fun e w' => Q e w' ∧ Ext w w') :
    Calls Try.prog F args w fun e w' => Q e w' ∧ Hid (Ext w w') ∧ Hid (Two w0 w' p x s r K) := by
  obtain ⟨M, D, A, B, h⟩ := h
  refine (hc M D h.disk).mono ?_
  rintro e w' ⟨h1, h2⟩
  exact ⟨h1, Lib.hid h2, Lib.hid (Two.ext_ ⟨M, D, A, B, h⟩ h2)⟩
theorem Two.lookR {F : Nat} {args : Array Value} {Q : Ending → World → Prop} (h : Two w0 w p x s r K) (hc : ∀ M D, RfX w x M D r → Calls Try.prog F args w fun e w' => Q e w' ∧ Ext w w') :
    Calls Try.prog F args w fun e w' => Q e w' ∧ Hid (Ext w w') ∧ Hid (Two w0 w' p x s r K) := by
  obtain ⟨M, D, A, B, h⟩ := h
  refine (hc A B h.ref).mono ?_
  rintro e w' ⟨h1, h2⟩
  exact ⟨h1, Lib.hid h2, Lib.hid (Two.ext_ ⟨M, D, A, B, h⟩ h2)⟩
theorem Two.xs (h : Two w0 w p x s r K) : (∃ M D, DkX w p M D s) ∧ ∃ M D, RfX w x M D r := by
  obtain ⟨M, D, A, B, h⟩ := h
  exact ⟨⟨M, D, h.disk⟩, A, B, h.ref⟩
/-- Both new. -/
theorem Two.new_ {w1 w2 : World} {M D A B : Nat → Prop} (h1 : DkX w1 p M D s) (he1 : Ext w w1) (hM : ∀ k, M k → w.heap.size ≤ k) (hD : ∀ k, D k → w.heap.size ≤ k) (h2 : RfX w2 x A B r) (he2 : Ext w1 w2) (hA : ∀ k, A k → w1.heap.size ≤ k) (hB : ∀ k, B k → w1.heap.size ≤ k) : Two w w2 p x s r (fun k => k < w.heap.size) := by
  refine ⟨M, D, A, B, he1.trans he2, h1.ext he2, h2, ?_, ?_, ?_, ?_, fun k hk => Nat.lt_of_lt_of_le hk (he1.trans he2).le⟩
  · have := he1.le
    rintro k (hk | hk | hk | hk)
    · exact hM k hk
    · exact hD k hk
    · exact Nat.le_trans this (hA k hk)
    · exact Nat.le_trans this (hB k hk)
  · exact fun k hk => ⟨fun h => by have := h1.ltM k hk; have := hA k h; omega, fun h => by have := h1.ltM k hk; have := hB k h; omega⟩
  · exact fun k hk h => by have := h1.ltD k h; have := hA k hk; omega
  · have := he1.le
    exact fun k hk => ⟨fun h => by have := hM k h; omega, fun h => by have := hD k h; omega, fun h => by have := hA k h; omega, fun h => by have := hB k h; omega⟩
end
end Go.Proofs.Ytjjhmknlhfijjaa
set_option linter.unusedVariables false
set_option linter.unusedSimpArgs false
namespace Go.Proofs.Ytjjhmknlhfijjaa
open Go.RowKit

theorem getK_at {L : KL Nam} (hr : riseK L) {k : Nat} (h : k < L.length) : getK L L[k].1 = some L[k].2 := by
  rcases hg : getK L L[k].1 with _ | b
  · unfold getK at hg
    rcases hf : L.find? (fun p => decide (p.1 = L[k].1)) with _ | p
    · have := List.find?_eq_none.1 hf L[k] (List.getElem_mem h)
      simp at this
    · rw [hf] at hg; cases hg
  · have h1 := rise_inj hr (List.getElem_mem h) (getK_mem hg) rfl
    rw [h1]
theorem xor255 (X : UInt8) : ∃ z : UInt8, bits .xor .u8 (X.toNat : Int) 255 = (z.toNat : Int) := by
  have : ∀ k : Fin 256, ∃ z : Fin 256, bits .xor .u8 (k.val : Int) 255 = (z.val : Int) := by
    intro k
    have h : bits .xor .u8 (k.val : Int) 255 = (((255 - k.val : Nat)) : Int) := by revert k; decide +kernel
    exact ⟨⟨255 - k.val, by omega⟩, h⟩
  obtain ⟨z, hz⟩ := this ⟨X.toNat, X.toNat_lt⟩
  refine ⟨byt z.val, ?_⟩
  rw [byt_toNat, Nat.mod_eq_of_lt z.isLt]
  exact hz

theorem one_byte (w : World) (z : Int) (b : UInt8) (hz : z = (b.toNat : Int)) : Rs kByte (w.alloc (.cells #[.int .u8 z] 5)) (fun _ => True) (.slice (some ⟨w.heap.size, 0, none⟩) 1 1) [b] :=
  ⟨_, 1, rfl, by simp, by omega, by simp, Row.of_block (S := fun _ => True) (heap_alloc_new _ _) trivial fun j y hj => by
    cases j with
    | zero =>
      simp at hj
      subst hj
      exact ⟨[.int .u8 z], ⟨by rw [hz], trivial⟩, fun i u hi => by simpa using hi⟩
    | succ j => simp at hj⟩
set_option maxRecDepth 100000 in
set_option maxHeartbeats 4000000 in
theorem alike_calls (w : World) (p x : Nat) (M D A B : Nat → Prop) (s : DkS) (h1 : DkX w p M D s) (h2 : RfX w x A B s) :
    Calls Try.prog 43 #[ptr p, ptr x] w fun e w' => e = .returned (.bool true) ∧ Ext w w' := by
  have HD := Lib.hid h1
  have HR := Lib.hid h2
  obtain ⟨z, lv, av, hy⟩ := h2
  obtain ⟨A2, c2, e, hl1, hl2, hl3, -⟩ := hy.acts.rs
  subst e
  have hb := hy.blk
  have hc2 : w.cell? ⟨x, 2, none⟩ = some (.slice A2 s.acts.length c2) := cell_blk hb 2
  have hc3 : w.cell? ⟨x, 3, none⟩ = some (.bool s.off) := cell_blk hb 3
  have hlt := blk_lt hb
  have HOK := Lib.hid hy.ok
  clear hb hy h1
  unfold ptr
  obtain ⟨pn, hpn⟩ : ∃ n, n = pendF s := ⟨_, rfl⟩
  have HPN := Lib.hid hpn
  obtain ⟨un, hun⟩ : ∃ n, n = usedF s := ⟨_, rfl⟩
  have HUN := Lib.hid hun
  clear hpn hun
  go_enter Try.func43, Try.ntmps43
  go_upto_if 18 with fail
  go_cut [5] (fun s5 wx => s5 = .int .i64 pn ∧ w = wx)
  case first =>
    rcases ho : s.off with _ | _
    · rw [ho] at hc3
      have HP := Lib.hid (show ((s.acts.length : Nat) : Int) = pn by rw [HPN.out]; unfold pendF; rw [ho]; rfl)
      clear ho
      go_wp2_with fail
      go_meet
      exact ⟨by rw [HP.out], rfl⟩
    · rw [ho] at hc3
      have HP := Lib.hid (show 0 = pn by rw [HPN.out]; unfold pendF; rw [ho]; rfl)
      clear ho
      go_wp2_with fail
      go_meet
      exact ⟨by rw [HP.out], rfl⟩
  obtain ⟨rfl, rfl⟩ := hcut
  clear hc2
  go_wp2_with fail
  refine (List_calls w p M D s HD.out).mono ?_
  rintro e w1 ⟨v1, rfl, ho1, hx1⟩
  have HX1 := Lib.hid hx1
  have HO1 := Lib.hid ho1.rs
  obtain ⟨A1, c1, rfl, -, -, -, -⟩ := ho1.rs
  clear ho1 hx1
  go_wp2_with fail
  refine (RList_calls w1 x A B s (HR.out.ext HX1.out)).mono ?_
  rintro e w2 ⟨v2, rfl, ho2, hx2⟩
  have HX2 := Lib.hid (HX1.out.trans hx2)
  have HO2 := Lib.hid ho2
  have HO3 := Lib.hid (HO1.out.ext hx2)
  obtain ⟨A3, c3, rfl, -, -, -, -⟩ := ho2
  clear hx2
  go_wp2_with fail
  refine (EqualS_same w2 _ _ _ _ _ HO3.out HO2.out).mono ?_
  rintro e w3 ⟨rfl, hx3⟩
  have HX3 := Lib.hid (HX2.out.trans hx3)
  clear hx3 HO1 HO2 HO3
  go_wp2_with fail
  refine (Pending_calls w3 p M D s (HD.out.ext HX3.out)).mono ?_
  rw [← HPN.out]
  rintro e w4 ⟨rfl, rfl⟩
  have hpp : (pn != pn) = false := by simp
  go_wp2_with fail
  refine (Used_calls w3 p M D s (HD.out.ext HX3.out)).mono ?_
  rw [← HUN.out]
  rintro e w4 ⟨rfl, hx4⟩
  have HX4 := Lib.hid (HX3.out.trans hx4)
  clear hx4
  go_wp2_with fail
  refine (RUsed_calls w4 x A B s (HR.out.ext HX4.out)).mono ?_
  rw [← HUN.out]
  rintro e w5 ⟨rfl, hx5⟩
  have HX5 := Lib.hid (HX4.out.trans hx5)
  have huu : (un != un) = false := by simp
  obtain ⟨z, lv, av, hy⟩ := HR.out.ext HX5.out
  have hc3 : w5.cell? ⟨x, 3, none⟩ = some (.bool s.off) := cell_blk hy.blk 3
  have hlt5 := blk_lt hy.blk
  have HFS := Lib.hid (Files_calls w5 x A B s z lv av hy)
  clear hx5 hy
  rcases ho : s.off with _ | _
  · rw [ho] at hc3
    have HOF := Lib.hid ho
    clear ho
    go_wp2_with fail
    refine HFS.out.mono ?_
    rintro e w6 ⟨u, rfl, hu, hx6⟩
    obtain ⟨A6, c6, rfl, hl6, hc6, hz6, hrow⟩ := hu
    have HRW := Lib.hid hrow
    have HX6 := Lib.hid (HX5.out.trans hx6)
    clear hrow hx6 hc3 hpp huu
    obtain ⟨L, hL⟩ : ∃ L, L = s.seen := ⟨_, rfl⟩
    have HL := Lib.hid hL
    have HLN := Lib.hid (show L.length ≤ 4096 by rw [hL]; exact HOK.out.seen_len)
    rw [← hL] at HRW hl6 hz6 ⊢
    have HFD := Lib.hid (show ∀ (k : Nat) (h : k < L.length), findF s L[k].1 = 0 ∧ readF s L[k].1 = L[k].2 from fun k h => by
      subst hL
      have h1 := getK_at HOK.out.seen_rise h
      have h2 : findF s s.seen[k].1 = 0 := find_iff.2 ⟨HOF.out, HOK.out.seen_names _ (List.getElem_mem h), by rw [h1]; rfl⟩
      refine ⟨h2, ?_⟩
      unfold readF
      rw [if_pos h2]
      exact bytes_some h1)
    clear hL
    go_wp2_with fail
    go_loopw [45] (fun i wr => ∃ k : Nat, k ≤ L.length ∧ i = .int .i64 k ∧ Hid (Ext w6 wr)) (fun i _ => L.length - (intOf i).toNat)
    case atStart => exact ⟨0, Nat.zero_le _, rfl, Lib.hid (Ext.refl _)⟩
    case round =>
      obtain ⟨k, hk, rfl, HX⟩ := hrel
      by_cases hlt2 : k < L.length
      · obtain ⟨ad, Ab, cb, rfl, x0, x1, hbt, hn⟩ := (HRW.out.keep (w' := wr) fun b _ hl => HX.out.block b hl).file hlt2
        have HBT := Lib.hid hbt
        have HN := Lib.hid hn
        have HFK := Lib.hid (HFD.out k hlt2)
        obtain ⟨y, hy⟩ : ∃ y, y = L[k] := ⟨_, rfl⟩
        rw [← hy] at x0 x1 HBT HN HFK
        clear hbt hn hy
        go_upto_region 11 with fail
        obtain ⟨w7, hw7⟩ : ∃ w7, w7 = wr.alloc (.cells #[.string ⟨y.1.toArray⟩, .slice Ab y.2.length cb] 101) := ⟨_, rfl⟩
        obtain ⟨g, hg⟩ : ∃ g, g = wr.heap.size := ⟨_, rfl⟩
        have hx7 : Ext wr w7 := by rw [hw7]; exact (Ext.refl _).alloc _
        have HX7 := Lib.hid (HX.out.trans hx7)
        have HBT7 := Lib.hid (HBT.out.ext hx7)
        have HB7 := Lib.hid (show w7.heap[g]? = some (.cells #[.string ⟨y.1.toArray⟩, .slice Ab y.2.length cb] 101 (0, 0)) by rw [hw7]; exact heap_new wr g hg.symm _)
        rw [← hw7, ← hg]
        have y0 : w7.cell? ⟨g, 0, none⟩ = some (.string ⟨y.1.toArray⟩) := cell_blk HB7.out 0
        have hgl := blk_lt HB7.out
        clear hw7 hg hx7 x0 x1
        go_wp2_with fail
        refine (Read_calls w7 p M D s y.1 (HD.out.ext (HX6.out.trans HX7.out)) HN.out).mono ?_
        rintro e w8 ⟨v8, rfl, ho8, hx8⟩
        rw [HFK.out.1]
        rw [HFK.out.2] at ho8
        have HO8 := Lib.hid ho8
        have HX8 := Lib.hid (HX7.out.trans hx8)
        have HBT8 := Lib.hid (HBT7.out.ext hx8)
        have HW78 := Lib.hid hx8.le
        have y1 : w8.cell? ⟨g, 1, none⟩ = some (.slice Ab y.2.length cb) := cell_blk (blk_ext HB7.out hx8) 1
        have hgl8 := blk_lt (blk_ext HB7.out hx8)
        have HG8 := Lib.hid (show w6.heap.size ≤ w7.heap.size from HX7.out.le)
        clear ho8 hx8 y0 hgl
        go_wp2_with fail
        refine (Equal_same _ _ _ _ _ _ HO8.out.rs HBT8.out).mono ?_
        rintro e w9 ⟨rfl, rfl⟩
        have HBL := Lib.hid (show y.2.length ≤ 140737488355327 by
          have h1 := HOK.out.len_le y.1
          have h2 := HOK.out.most
          have h3 : s.len y.1 = y.2.length := by unfold DkS.len; rw [← HFK.out.2]; unfold readF; rw [if_pos HFK.out.1]
          rw [h3] at h1
          omega)
        obtain ⟨wa, hwa⟩ : ∃ W, W = w8.alloc (.cells #[.int .u8 1] 5) := ⟨_, rfl⟩
        have HWA := Lib.hid hwa
        have hxa : Ext w8 wa := by rw [hwa]; exact (Ext.refl _).alloc _
        have HXA := Lib.hid (HX8.out.trans hxa)
        have HOA := Lib.hid (HO8.out.ext hxa)
        have HLIT := Lib.hid (show Rs kByte wa (fun _ => True) (.slice (some ⟨w8.heap.size, 0, none⟩) 1 1) [(1 : UInt8)] by rw [hwa]; exact one_byte w8 1 1 rfl)
        have HLE := Lib.hid (show w7.heap.size ≤ wa.heap.size from Nat.le_trans HW78.out hxa.le)
        clear hwa hxa
        go_wp2_with (at_builtin; rw [← HWA.out]; refine wpList_append_Rs kByte rfl (.tmp 65) (.tmp 66) 23 5 rfl tBytes w7.heap.size _ _ y.2 [(1 : UInt8)] (w7.heap.size ≤ ·) (fun _ => True) rfl rfl HOA.out HLIT.out (fun _ _ h => h) (fun k hk => Nat.le_trans HLE.out hk) (by have := HBL.out; simp only [List.length_cons, List.length_nil]; omega) HLE.out ?_)
        intro v' wb ho hg _
        have HXB := Lib.hid (HXA.out.grown hg fun k hk => Nat.le_trans HG8.out (HOA.out.from_ k hk))
        obtain ⟨gb, cap, rfl, hg1, hg2, hg3, hg4⟩ := ho.form (by simp)
        have hcell := (ho.scell 0 (by simp)).1
        have hfr := (ho.scell 0 (by simp)).2
        obtain ⟨zz, hz1⟩ := xor255 ((y.2 ++ [(1 : UInt8)])[0]'(by simp))
        obtain ⟨ln, hln⟩ : ∃ n, n = (y.2 ++ [(1 : UInt8)]).length := ⟨_, rfl⟩
        have hln0 : 0 < ln := by rw [hln]; simp
        have HGB := Lib.hid (show w6.heap.size ≤ gb from Nat.le_trans HG8.out hg1)
        generalize (y.2 ++ [(1 : UInt8)])[0]'(by simp) = b0 at hcell hz1
        rw [← hln] at hg3 ⊢
        clear ho hg hln
        go_wp2_with fail
        go_roundw
        case rel => exact ⟨k + 1, by omega, by go_num, Lib.hid (HXB.out.seti (g := gb) (i := 0) HGB.out (.int .u8 (zz.toNat : Int)))⟩
        case measure => simp [intOf]; omega
      · obtain rfl : k = L.length := by omega
        clear hlt2
        go_wp2_with fail
        go_ret
        exact ⟨rfl, HX6.out.trans HX.out⟩
  · rw [ho] at hc3
    clear ho
    go_wp2_with fail
    go_ret
    exact ⟨rfl, HX5.out⟩
end Go.Proofs.Ytjjhmknlhfijjaa
set_option linter.unusedVariables false
set_option linter.unusedSimpArgs false
namespace Go.Proofs.Ytjjhmknlhfijjaa
open Go.RowKit

theorem do_op {s : DkS} {d : DoS} {o : Int} {r : Int × DkS} (ho : o = op10 d.op) (h : doesO o s d = r) : doesS s d = r := by
  unfold doesS
  rw [← ho]
  exact h
set_option maxRecDepth 100000 in
set_option maxHeartbeats 16000000 in
theorem DiskPlays_walk (w : World) (room : Int) (hroom : -9223372036854775808 ≤ room ∧ room ≤ 9223372036854775807) (S1 : Nat → Prop) (v1 : Value) (l : List DoS) (h1 : Rs kDDo w S1 v1 l) :
    Calls Try.prog 7 #[.int .i64 room, v1] w fun e w' => e = .returned (.bool true) ∧ Ext w w' := by
  obtain ⟨A1, c1, e, -, -, -, hrw⟩ := id h1.under
  subst e
  have HRW := Lib.hid hrw
  have HL1 := Lib.hid h1
  clear h1 hrw
  by_cases hr : room < 0 ∨ 16777216 < room
  · have HRM := Lib.hid hr
    clear hr
    go_enter Try.func7, Try.ntmps7
    go_wp2_with fail
    refine (New_none w room HRM.out).mono ?_
    rintro e w' ⟨rfl, rfl⟩
    go_wp2_with fail
    refine (RNew_none w room HRM.out).mono ?_
    rintro e w' ⟨rfl, rfl⟩
    go_wp2_with fail
    refine (awake_calls w).mono ?_
    rintro e wz ⟨rfl, hx⟩
    have HXZ := Lib.hid ((Ext.refl w).trans hx)
    clear hx
    go_wp2_with fail
    go_ret
    exact ⟨rfl, HXZ.out⟩
  have HRM := Lib.hid (show 0 ≤ room ∧ room ≤ 16777216 by omega)
  clear hr hroom
  go_enter Try.func7, Try.ntmps7
  go_wp2_with fail
  refine (New_calls w room HRM.out.1 HRM.out.2).mono ?_
  rintro e w1 ⟨p, M1, D1, rfl, hd1, he1, hm1, hdd1⟩
  have HN1 := Lib.hid (show DkX w1 p M1 D1 (newS room) ∧ Ext w w1 ∧ (∀ k, M1 k → w.heap.size ≤ k) ∧ ∀ k, D1 k → w.heap.size ≤ k from ⟨hd1, he1, hm1, hdd1⟩)
  clear hd1 he1 hm1 hdd1
  unfold ptr
  go_wp2_with fail
  refine (RNew_calls w1 room HRM.out.1 HRM.out.2).mono ?_
  rintro e w2 ⟨x, M2, D2, rfl, hd2, he2, hm2, hdd2⟩
  have HT2 := Lib.hid (Two.new_ HN1.out.1 HN1.out.2.1 HN1.out.2.2.1 HN1.out.2.2.2 hd2 he2 hm2 hdd2)
  clear hd2 he2 hm2 hdd2 HN1
  unfold ptr
  go_wp2_with fail
  refine (short_calls w2 _ _ l (HL1.out.ext HT2.out.ext)).mono ?_
  rintro e w' ⟨rfl, rfl⟩
  by_cases hs : shortF l = true
  case neg =>
    have hs' : shortF l = false := by simpa using hs
    rw [hs']
    clear hs hs'
    go_wp2_with fail
    refine (awake_calls w2).mono ?_
    rintro e wz ⟨rfl, hx⟩
    have HXZ := Lib.hid (HT2.out.ext.trans hx)
    clear hx
    go_wp2_with fail
    go_ret
    exact ⟨rfl, HXZ.out⟩

  have HSL := Lib.hid (short_len hs)
  have hln := short_len hs
  rw [hs]
  clear hs HL1
  go_wp2_with fail
  go_loopw [50] (fun i wr => ∃ (k : Nat) (s : DkS), k ≤ l.length ∧ i = .int .i64 k ∧ Hid (Two w wr p x s s (fun k => k < w.heap.size)) ∧ Hid (s.acts.length ≤ k)) (fun i _ => l.length - (intOf i).toNat)
  case atStart => exact ⟨0, newS room, Nat.zero_le _, rfl, HT2, Lib.hid (Nat.le_refl _)⟩
  case round =>
    clear HT2
    obtain ⟨k, s, hk, rfl, HT, HSA⟩ := hrel
    have HLN := Lib.hid (show s.acts.length ≤ 1000000 by have := HSA.out; omega)
    have HWW := Lib.hid (show w.heap.size ≤ wr.heap.size from HT.out.ext.le)
    by_cases hlt : k < l.length
    · obtain ⟨ad, Ab, cb, rfl, hbl, hi, hb, x0, x1, x2, x3, x4, x5, x6, x7⟩ := (HRW.out.keep (w' := wr) fun b _ hl => HT.out.ext.block b hl).ddo hlt
      have HI := Lib.hid hi
      have HB := Lib.hid hb
      obtain ⟨d, hdd⟩ : ∃ d, d = l[k] := ⟨_, rfl⟩
      rw [← hdd] at HI HB x0 x1 x2 x3 x4 x5 x6 x7
      clear hi hb hdd
      go_upto_region 10 with fail
      obtain ⟨w2, hw2⟩ : ∃ w2, w2 = wr.alloc (.cells (doC d (.slice Ab d.b.length cb)) 43) := ⟨_, rfl⟩
      obtain ⟨g, hg⟩ : ∃ g, g = wr.heap.size := ⟨_, rfl⟩
      have hx2 : Ext wr w2 := by rw [hw2]; exact (Ext.refl _).alloc _
      have HX2 := Lib.hid hx2
      have HG2 := Lib.hid (show w2.heap[g]? = some (.cells (doC d (.slice Ab d.b.length cb)) 43 (0, 0)) by rw [hw2]; exact heap_new wr g hg.symm _)
      have HGG := Lib.hid hg
      unfold doC at hw2
      rw [← hw2, ← hg]
      clear hw2 hg hx2 x0 x1 x2 x3 x4 x5 x6 x7
      obtain ⟨x0, x1, x2, x3, x4, x5, x6, x7⟩ := do_cells HG2.out
      have hgl := blk_lt HG2.out
      go_upto_region 11 with fail
      obtain ⟨w3, hw3⟩ : ∃ w3, w3 = w2.alloc (.cells (doC d (.slice Ab d.b.length cb)) 43) := ⟨_, rfl⟩
      obtain ⟨g2, hg2⟩ : ∃ g, g = w2.heap.size := ⟨_, rfl⟩
      have hx3 : Ext w2 w3 := by rw [hw3]; exact (Ext.refl _).alloc _
      have HX3 := Lib.hid (HX2.out.trans hx3)
      have HG3 := Lib.hid (show w3.heap[g2]? = some (.cells (doC d (.slice Ab d.b.length cb)) 43 (0, 0)) by rw [hw3]; exact heap_new w2 g2 hg2.symm _)
      have HGO := Lib.hid (blk_ext HG2.out hx3)
      have HGH := Lib.hid (show g < g2 by have := blk_lt HG2.out; omega)
      have HGU := Lib.hid (show wr.heap.size ≤ g ∧ g2 < w3.heap.size ∧ wr.heap.size ≤ w3.heap.size by have := HGG.out; have := blk_lt HG3.out; have := HX3.out.le; omega)
      have HB3 := Lib.hid (HB.out.ext HX3.out)
      have HBL := Lib.hid (show d.b.length ≤ 140737488355328 by obtain ⟨_, _, e, _, _, h, _⟩ := HB.out; exact h)
      unfold doC at hw3
      rw [← hw3, ← hg2]
      clear hw3 hg2 hx3 x0 x1 x2 x3 x4 x5 x6 x7 hgl
      have x4 : w3.cell? ⟨g, 4, none⟩ = some (.slice Ab d.b.length cb) := cell_blk HGO.out 4
      have hgl := blk_lt HGO.out
      go_wp2_with fail
      refine (Clone_calls w3 _ _ d.b HB3.out HBL.out).mono ?_
      rintro e w4 ⟨u, rfl, ho4, hx4⟩
      obtain ⟨A4, c4, rfl, -, -, -, -⟩ := ho4.rs
      have HX4 := Lib.hid (HX3.out.trans hx4)
      have HO4 := Lib.hid ho4
      have HW34 := Lib.hid hx4.le
      have HG4 := Lib.hid (blk_ext HG3.out hx4)
      have HGP := Lib.hid (blk_ext HGO.out hx4)
      have y4 : w4.cell? ⟨g2, 4, none⟩ = some (.slice Ab d.b.length cb) := cell_blk HG4.out 4
      have yz : w4.frozen? ⟨g2, 4, none⟩ = false := frozen_blk HG4.out 4
      have hgl4 := blk_lt HG4.out
      clear ho4 hx4 x4 hgl
      go_upto_region 12 with fail
      obtain ⟨w5, hw5⟩ : ∃ W, W = w4.setCell ⟨g2, 4, none⟩ (.slice A4 d.b.length c4) := ⟨_, rfl⟩
      have hu5 : Upd (fun k => k = g2) w4 w5 := by rw [hw5]; exact (Upd.refl (fun k => k = g2) w4).set (g := g2) (.inl rfl) _
      have hsz5 : w5.heap.size = w4.heap.size := by rw [hw5]; simp [World.setCell]
      have HSZ5 := Lib.hid hsz5
      have HG5 := Lib.hid (show w5.heap[g2]? = some (.cells (doC d (.slice A4 d.b.length c4)) 43 (0, 0)) by rw [hw5]; exact heap_setCell_same w4 g2 4 _ _ _ HG4.out)
      have HGA := Lib.hid (show w5.heap[g]? = some (.cells (doC d (.slice Ab d.b.length cb)) 43 (0, 0)) from blk_upd HGP.out hu5 (by have := HGH.out; omega))
      have HX5 := Lib.hid (show Ext wr w5 from hu5.ext HX4.out fun k hk => by subst hk; have := HGU.out; have := HGH.out; omega)
      have HO5 := Lib.hid (show Ow kByte 5 w5 w3.heap.size (w3.heap.size ≤ ·) (.slice A4 d.b.length c4) d.b from HO4.out.upd hu5 fun k hk e => by subst e; have := HGU.out; omega)
      have hk5 := HT.out.grow HX5.out
      obtain ⟨K1, hK1⟩ : ∃ K, K = (fun k => k < w.heap.size ∨ (wr.heap.size ≤ k ∧ k < w5.heap.size)) := ⟨_, rfl⟩
      rw [← hK1] at hk5
      have HT5 := Lib.hid hk5
      have HKG := Lib.hid (show K1 g ∧ K1 g2 ∧ (∀ k, w3.heap.size ≤ k → k < w5.heap.size → K1 k) ∧ (∀ k, k < w.heap.size → K1 k) by
        rw [hK1]
        have h1 := HGU.out
        have h2 := HGH.out
        have h3 := HW34.out
        have h4 := HX3.out.le
        have h5 := HSZ5.out
        exact ⟨.inr ⟨by omega, by omega⟩, .inr ⟨by omega, by omega⟩, fun k a b => .inr ⟨by omega, b⟩, fun k a => .inl a⟩)
      have HB5 := Lib.hid (show Rs kByte w5 K1 (.slice Ab d.b.length cb) d.b from (HB.out.ext HX5.out).mono fun k hk => HKG.out.2.2.2 k hk)
      rw [← hw5]
      clear hw5 hu5 hsz5 hk5 hK1 y4 yz hgl4 HG3 HG4 HGP HGO HG2
      obtain ⟨x0, x1, x2, x3, x4, x5, x6, x7⟩ := do_cells HG5.out
      have hgl := blk_lt HG5.out
      go_wp2_with fail
      refine (HT5.out.opD fun M D hX => does_calls w5 p M D _ s d _ hX HI.out HO5.out.rs HLN.out).mono ?_
      rintro e w6 ⟨rfl, HT6, HK6⟩
      have HG6 := Lib.hid ((HK6.out g2 HKG.out.2.1).trans HG5.out)
      have HGB := Lib.hid ((HK6.out g HKG.out.1).trans HGA.out)
      have HO6 := Lib.hid (show Ow kByte 5 w6 w3.heap.size (fun k => K1 k ∧ w3.heap.size ≤ k) (.slice A4 d.b.length c4) d.b from (HO5.out.bound.mono fun k hk => ⟨HKG.out.2.2.1 k hk.1 hk.2, hk.1⟩).keep fun k hk _ => HK6.out k hk.1)
      have HV6 := Lib.hid (show Rs kByte w6 K1 (.slice Ab d.b.length cb) d.b from HB5.out.keep fun k hk _ => HK6.out k hk)
      clear x0 x1 x2 x3 x4 x5 x6 x7 hgl
      obtain ⟨x0, x1, x2, x3, x4, x5, x6, x7⟩ := do_cells HGB.out
      have hgl := blk_lt HGB.out
      have ho : wrap64 ((IntKind.u64.wrap d.op).tmod 10) = op10 d.op := rfl
      go_upto_block 2 with fail
      rw [ho]
      clear ho
      obtain ⟨o, hoo⟩ : ∃ o, o = op10 d.op := ⟨_, rfl⟩
      rw [← hoo]
      have HOO := Lib.hid hoo
      clear hoo
      go_cut [13] (fun s13 wx => s13 = .int .i64 (doesS s d).1 ∧ Hid (Two w wx p x (doesS s d).2 (doesS s d).2 K1) ∧ Hid (∀ k, K1 k → wx.heap[k]? = w6.heap[k]?))
      case first =>
        by_cases h3 : o = 3
        · subst h3
          have HE := Lib.hid (do_op HOO.out (show doesO 3 s d = trimS s d.name d.at_ from by unfold doesO; simp))
          go_wp2_with fail
          refine (HT6.out.opR fun M D hX => RTrim_calls w6 x M D s d.name d.at_ hX HI.out.name HI.out.at_ HLN.out).mono ?_
          rw [← HE.out]
          rintro e w7 ⟨rfl, HT7, HK7⟩
          go_wp2_with fail
          go_meet
          exact ⟨rfl, HT7, HK7⟩
        have n3 : (o == 3) = false := beq_eq_false_iff_ne.2 h3
        by_cases h4 : o = 4
        · subst h4
          have HE := Lib.hid (do_op HOO.out (show doesO 4 s d = moveS s d.name d.to from by unfold doesO; simp))
          go_wp2_with fail
          refine (HT6.out.opR fun M D hX => RMove_calls w6 x M D s d.name d.to hX HI.out.name HI.out.to HLN.out).mono ?_
          rw [← HE.out]
          rintro e w7 ⟨rfl, HT7, HK7⟩
          go_wp2_with fail
          go_meet
          exact ⟨rfl, HT7, HK7⟩
        have n4 : (o == 4) = false := beq_eq_false_iff_ne.2 h4
        by_cases h5 : o = 5
        · subst h5
          have HE := Lib.hid (do_op HOO.out (show doesO 5 s d = dropS s d.name from by unfold doesO; simp))
          go_wp2_with fail
          refine (HT6.out.opR fun M D hX => RDrop_calls w6 x M D s d.name hX HI.out.name HLN.out).mono ?_
          rw [← HE.out]
          rintro e w7 ⟨rfl, HT7, HK7⟩
          go_wp2_with fail
          go_meet
          exact ⟨rfl, HT7, HK7⟩
        have n5 : (o == 5) = false := beq_eq_false_iff_ne.2 h5
        by_cases h6 : o = 6
        · subst h6
          have HE := Lib.hid (do_op HOO.out (show doesO 6 s d = syncS s from by unfold doesO; simp))
          go_wp2_with fail
          refine (HT6.out.opR fun M D hX => RSync_calls w6 x M D s hX).mono ?_
          rw [← HE.out]
          rintro e w7 ⟨rfl, HT7, HK7⟩
          go_wp2_with fail
          go_meet
          exact ⟨rfl, HT7, HK7⟩
        have n6 : (o == 6) = false := beq_eq_false_iff_ne.2 h6
        by_cases h7 : o = 7
        · subst h7
          have HE := Lib.hid (do_op HOO.out (show doesO 7 s d = armS s d.n d.keep d.tear from by unfold doesO; simp))
          go_wp2_with fail
          refine (HT6.out.opR fun M D hX => RArm_calls w6 x M D s d.n d.keep d.tear hX HI.out.n HI.out.keep HI.out.tear).mono ?_
          rw [← HE.out]
          rintro e w7 ⟨rfl, HT7, HK7⟩
          go_wp2_with fail
          go_meet
          exact ⟨rfl, HT7, HK7⟩
        have n7 : (o == 7) = false := beq_eq_false_iff_ne.2 h7
        by_cases h8 : o = 8
        · subst h8
          have HE := Lib.hid (do_op HOO.out (show doesO 8 s d = crashS s d.keep d.tear from by unfold doesO; simp))
          go_wp2_with fail
          refine (HT6.out.opR fun M D hX => RCrash_calls w6 x M D s d.keep d.tear hX HI.out.keep HI.out.tear).mono ?_
          rw [← HE.out]
          rintro e w7 ⟨rfl, HT7, HK7⟩
          go_wp2_with fail
          go_meet
          exact ⟨rfl, HT7, HK7⟩
        have n8 : (o == 8) = false := beq_eq_false_iff_ne.2 h8
        by_cases h9 : o = 9
        · subst h9
          have HE := Lib.hid (do_op HOO.out (show doesO 9 s d = (0, startS s) from by unfold doesO; simp))
          go_wp2_with fail
          refine (HT6.out.opR fun M D hX => RStart_calls w6 x M D s hX).mono ?_
          rintro e w7 ⟨rfl, HT7, HK7⟩
          go_wp2_with fail
          go_meet
          exact ⟨by rw [HE.out], by have h := HT7; rw [HE.out] at h ⊢; exact h, HK7⟩
        have n9 : (o == 9) = false := beq_eq_false_iff_ne.2 h9
        have HE := Lib.hid (do_op HOO.out (show doesO o s d = writeS s d.name d.at_ d.b from by unfold doesO; rw [if_neg h3, if_neg h4, if_neg h5, if_neg h6, if_neg h7, if_neg h8, if_neg h9]))
        clear h3 h4 h5 h6 h7 h8 h9
        go_wp2_with fail
        refine (HT6.out.opR fun M D hX => RWrite_calls w6 x M D s d.name d.at_ _ _ d.b hX HI.out.name HI.out.at_ HV6.out HLN.out).mono ?_
        rw [← HE.out]
        rintro e w7 ⟨rfl, HT7, HK7⟩
        go_wp2_with fail
        go_meet
        exact ⟨rfl, HT7, HK7⟩
  
      obtain ⟨rfl, HT7, HK7⟩ := hcut
      have HSA7 := Lib.hid (show (doesS s d).2.acts.length ≤ k + 1 from Nat.le_trans (does_len s d) (by have := HSA.out; omega))
      have HN := Lib.hid HI.out.name
      obtain ⟨t, ht⟩ : ∃ t, t = (doesS s d).2 := ⟨_, rfl⟩
      rw [← ht] at HT7 HSA7
      obtain ⟨r0, hr0⟩ : ∃ r, r = (doesS s d).1 := ⟨_, rfl⟩
      rw [← hr0]
      clear ht hr0
      have HG8 := Lib.hid ((HK7.out g2 HKG.out.2.1).trans HG6.out)
      have HGC := Lib.hid ((HK7.out g HKG.out.1).trans HGB.out)
      have HO8 := Lib.hid (show Ow kByte 5 wc w3.heap.size (fun k => K1 k ∧ w3.heap.size ≤ k) (.slice A4 d.b.length c4) d.b from HO6.out.keep fun k hk _ => HK7.out k hk.1)
      have HV8 := Lib.hid (show Rs kByte wc K1 (.slice Ab d.b.length cb) d.b from HV6.out.keep fun k hk _ => HK7.out k hk)
      clear x0 x1 x2 x3 x4 x5 x6 x7 hgl HG6 HGB HO6 HV6 HK7 HK6 HT6 HT HOO HLN HSA HT5 HG5 HGA HO5 HB5 HB3 HB
      have x4 : wc.cell? ⟨g, 4, none⟩ = some (.slice Ab d.b.length cb) := cell_blk HGC.out 4
      have y4 : wc.cell? ⟨g2, 4, none⟩ = some (.slice A4 d.b.length c4) := cell_blk HG8.out 4
      have hgl := blk_lt HGC.out
      have hgl2 := blk_lt HG8.out
      go_wp2_with fail
      refine (Equal_same _ _ _ _ _ _ HO8.out.rs HV8.out).mono ?_
      rintro e w9 ⟨rfl, rfl⟩
      obtain ⟨m, hm⟩ : ∃ m, m = d.b.length := ⟨_, rfl⟩
      have HM := Lib.hid hm
      have hmb : m ≤ 140737488355328 := by rw [hm]; exact HBL.out
      rw [← hm] at y4
      clear x4 HV8 hm
      go_wp2_with fail
      go_loopw [131] (fun i wr2 => ∃ (j : Nat) (ys : List UInt8), j ≤ m ∧ i = .int .i64 j ∧ Hid (ys.length = m) ∧ Hid (Ow kByte 5 wr2 w3.heap.size (fun k => K1 k ∧ w3.heap.size ≤ k) (.slice A4 m c4) ys) ∧ Hid (Two w wr2 p x t t K1) ∧ Hid (wr2.heap[g]? = some (.cells (doC d (.slice Ab d.b.length cb)) 43 (0, 0))) ∧ Hid (wr2.heap[g2]? = some (.cells (doC d (.slice A4 m c4)) 43 (0, 0)))) (fun i _ => m - (intOf i).toNat)
      case atStart => exact ⟨0, d.b, Nat.zero_le _, rfl, Lib.hid HM.out.symm, by rw [HM.out]; exact HO8, HT7, HGC, by rw [HM.out]; exact HG8⟩
      case round =>
        clear HO8 HT7 HGC HG8 y4 hgl hgl2 HM
        obtain ⟨j, ys, hj, rfl, HYL, HOY, HTY, HGY, HG2Y⟩ := hrel
        by_cases hltj : j < m
        · have ho := HOY.out
          have hyl := HYL.out
          have ho2 := ho
          rw [← hyl] at ho2
          obtain ⟨gb, cap, hv, hg1, hg2', hg3, hg4⟩ := ho2.form (by omega)
          injection hv with e1 _ e3
          subst e1; subst e3
          have hcell := (ho2.scell j (by omega)).1
          have hfr := (ho2.scell j (by omega)).2
          have hset := fun z : UInt8 => (ho2.sset j z trivial).1
          rw [hyl] at hset
          have HSET := Lib.hid hset
          have HGB4 := Lib.hid hg4
          obtain ⟨z, hz1⟩ := xor255 (ys[j]'(by omega))
          generalize ys[j]'(by omega) = b0 at hcell hz1
          have y4 : wr.cell? ⟨g2, 4, none⟩ = some (.slice (some ⟨gb, 0, none⟩) m c4) := cell_blk HG2Y.out 4
          have hgl2 := blk_lt HG2Y.out
          clear ho ho2 hset hyl hg4 hg1 hg3
          go_wp2_with fail
          have HU := Lib.hid ((Upd.refl (fun k => k = gb) wr).set (g := gb) (i := j) (.inl rfl) (.int .u8 (z.toNat : Int)))
          have HWG := Lib.hid (show w.heap.size ≤ gb by have h1 := HGB4.out.2; have h2 := HGU.out; have h3 := HWW.out; omega)
          have HT9 := Lib.hid (HTY.out.turn HU.out (fun k hk => by subst hk; exact HGB4.out.1) (fun k hk => by subst hk; exact HWG.out))
          have HGN := Lib.hid (blk_upd HGY.out HU.out (show ¬ g = gb by have h1 := HGB4.out.2; have h2 := HGU.out; have h3 := HGH.out; omega))
          have HG2N := Lib.hid (blk_upd HG2Y.out HU.out (show ¬ g2 = gb by have h1 := HGB4.out.2; have h2 := HGU.out; have h3 := HGH.out; omega))
          have HON := Lib.hid (HSET.out z)
          have HYN := Lib.hid (show (ys.set j z).length = m by rw [List.length_set]; exact HYL.out)
          clear hcell hfr y4 hgl2
          go_roundw
          case rel => exact ⟨j + 1, ys.set j z, by omega, by go_num, HYN, HON, HT9, HGN, HG2N⟩
          case measure => simp [intOf]; omega
        · obtain rfl : j = m := by omega
          clear hltj HOY HYL HG2Y
          have x1 : wr.cell? ⟨g, 1, none⟩ = some (.string ⟨d.name.toArray⟩) := cell_blk HGY.out 1
          have hgl := blk_lt HGY.out
          obtain ⟨n, hn⟩ : ∃ n, n = d.name := ⟨_, rfl⟩
          rw [← hn] at x1 HN
          have HNN := Lib.hid hn
          clear hn
          go_wp2_with fail
          refine (HTY.out.lookD (Q := fun e w' => ∃ v, e = .returned (.tuple #[v, .int .i64 (findF t n)]) ∧ Rs kByte w' (fun _ => True) v (readF t n)) fun M D hx => (Read_calls wr p M D t n hx HN.out).mono fun e w' ⟨v, h1, h2, h3⟩ => ⟨⟨v, h1, h2.rs.mono fun _ _ => trivial⟩, h3⟩).mono ?_
          rintro e wa ⟨⟨va, rfl, hra⟩, HXA, HTA⟩
          have HRA := Lib.hid hra
          obtain ⟨Aa, ca, rfl, -, -, -, -⟩ := hra
          have x1 : wa.cell? ⟨g, 1, none⟩ = some (.string ⟨n.toArray⟩) := by rw [HNN.out]; exact cell_blk (blk_ext HGY.out HXA.out) 1
          have hgla := blk_lt (blk_ext HGY.out HXA.out)
          clear hgl
          go_wp2_with fail
          refine (HTA.out.lookR (Q := fun e w' => ∃ v, e = .returned (.tuple #[v, .int .i64 (findF t n)]) ∧ Rs kByte w' (fun _ => True) v (readF t n)) fun M D hx => (RRead_calls wa x M D t n hx HN.out).mono fun e w' ⟨v, h1, h2, h3⟩ => ⟨⟨v, h1, h2⟩, h3⟩).mono ?_
          rintro e wb ⟨⟨vb, rfl, hrb⟩, HXB, HTB⟩
          have HRB := Lib.hid hrb
          obtain ⟨Abb, cbb, rfl, -, -, -, -⟩ := hrb
          have HRA2 := Lib.hid (HRA.out.ext HXB.out)
          have hrr : (r0 != r0) = false := by simp
          have hff : (findF t n != findF t n) = false := by simp
          obtain ⟨mr, hmr⟩ : ∃ m, m = (readF t n).length := ⟨_, rfl⟩
          rw [← hmr] at HRA2 HRB ⊢
          clear x1 hgla hmr
          go_wp2_with fail
          refine (Equal_same _ _ _ _ _ _ HRA2.out HRB.out).mono ?_
          rintro e w9 ⟨rfl, rfl⟩
          obtain ⟨⟨Ma, Da, hda⟩, Mb, Db, hdb⟩ := HTB.out.xs
          have HAL := Lib.hid (alike_calls wb p x Ma Da Mb Db t hda hdb)
          clear hda hdb
          unfold ptr at HAL
          go_wp2_with fail
          refine HAL.out.mono ?_
          rintro e wd ⟨rfl, hxd⟩
          have HTD := Lib.hid (HTB.out.ext_ hxd)
          clear hxd
          go_wp2_with fail
          go_roundw
          case rel => exact ⟨k + 1, t, by omega, by go_num, Lib.hid (HTD.out.mono HKG.out.2.2.2), HSA7⟩
          case measure => simp [intOf]; omega

    · obtain rfl : k = l.length := by omega
      clear hlt
      go_wp2_with fail
      refine (awake_calls wr).mono ?_
      rintro e wz ⟨rfl, hx⟩
      have HXZ := Lib.hid (HT.out.ext.trans hx)
      clear hx
      go_wp2_with fail
      go_ret
      exact ⟨rfl, HXZ.out⟩

end Go.Proofs.Ytjjhmknlhfijjaa
