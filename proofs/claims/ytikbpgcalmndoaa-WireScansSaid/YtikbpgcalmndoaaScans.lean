/-
  WireScans.
-/
import Derived.Test.YtikbpgcalmndoaaRefScTx
import Derived.Test.YtikbpgcalmndoaaStruct
import Derived.Test.YtikbpgcalmndoaaRecords
import Derived.Test.YtikbpgcalmndoaaNobody
import Derived.Deep.RegionHeld3
set_option linter.unusedVariables false
set_option linter.unusedSimpArgs false
namespace Go.Proofs.Ytikbpgcalmndoaa
open Go.RowKit

theorem Sc.mono {w : World} {B B' : Nat → Prop} {p q : Nat} {s : ScS} (h : Sc w B p q s) (hB : ∀ b, B b → b < w.heap.size → B' b) : Sc w B' p q s := by
  obtain ⟨v, h1, h2, h3, h4, h5, h6, h7⟩ := h
  exact ⟨v, h1, h2, h3.bound.mono fun b hb => ⟨hB b hb.1.1 hb.2, hb.1.2⟩, h4, h5, hB p h6 (blk_lt h1), hB q h7 (blk_lt h2)⟩
theorem Sc.heap {w w' : World} {B : Nat → Prop} {p q : Nat} {s : ScS} (h : Sc w B p q s) (hh : w'.heap = w.heap) : Sc w' B p q s := by
  obtain ⟨v, h1, h2, h3, h4⟩ := h
  exact ⟨v, by rw [hh]; exact h1, by rw [hh]; exact h2, h3.keep fun _ _ _ => by rw [hh], h4⟩
theorem Rc.heap {w w' : World} {r : Nat} {S : Nat → Prop} {s : ScS} (h : Rc w r S s) (hh : w'.heap = w.heap) : Rc w' r S s := by
  obtain ⟨v, h1, h2, h3⟩ := h
  exact ⟨v, by rw [hh]; exact h1, h2.keep fun _ _ _ => by rw [hh], h3⟩
theorem Rc.ext {w w' : World} {r : Nat} {S : Nat → Prop} {s : ScS} (h : Rc w r S s) (he : Ext w w') : Rc w' r S s := by
  obtain ⟨v, h1, h2, h3⟩ := h
  exact ⟨v, blk_ext h1 he, h2.ext he, h3⟩
theorem cell_upd {T : Nat → Prop} {w w' : World} {g i : Nat} {v : Value} (hc : w.cell? ⟨g, i, none⟩ = some v) (hu : Upd T w w') (hg : ¬ T g) : w'.cell? ⟨g, i, none⟩ = some v := by
  have hl : g < w.heap.size := World.block_lt_of_cell? w _ hc
  rw [World.cell?_of_block (w := w) (hu.block g hl hg)]; exact hc
theorem number_b (s : ScS) : s.number.2.b = s.b := by unfold ScS.number; split <;> rfl
theorem text_b (s : ScS) (most : Int) : (s.text most).2.b = s.b := by unfold ScS.text; repeat' split
                                                                      all_goals rfl
theorem flag_b (s : ScS) : s.flag.2.b = s.b := by unfold ScS.flag; repeat' split
                                                  all_goals rfl
theorem end_b (s : ScS) : s.end_.b = s.b := by unfold ScS.end_; split <;> rfl
theorem cell_ext {w w' : World} {g i : Nat} {v : Value} (hc : w.cell? ⟨g, i, none⟩ = some v) (he : Ext w w') : w'.cell? ⟨g, i, none⟩ = some v := by
  have hl : g < w.heap.size := World.block_lt_of_cell? w _ hc
  rw [World.cell?_of_block (w := w) (he.block g hl)]; exact hc
theorem ScNumber_far (w : World) (B : Nat → Prop) (p q : Nat) (s : ScS) (hs : Sc w B p q s) (C : Nat) (hC : ∀ k, two p q k → C ≤ k) :
    Calls Try.prog 26 #[.pointer (some ⟨p, 0, none⟩)] w fun e w' => e = .returned (.int .i64 (s.number.1 : Int)) ∧ (∀ (g i : Nat) (v : Value), g < C → w.cell? ⟨g, i, none⟩ = some v → w'.cell? ⟨g, i, none⟩ = some v) ∧ Upd (two p q) w w' :=
  (ScNumber_calls w B p q s hs).mono fun _ _ ⟨h1, _, h3⟩ => ⟨h1, fun g i v hg hc => cell_upd hc h3 fun h => by have := hC g h; omega, h3⟩
theorem ask_at (a : Int) : ∃ J : Nat, wrap64 ((IntKind.u64.wrap a).tmod 4) = (J : Int) ∧ J < 4 := by
  have hq : 0 ≤ IntKind.u64.wrap a := by rw [IntKind.wrap_u64]; omega
  rw [Int.tmod_eq_emod_of_nonneg hq]
  have h3 := Int.emod_nonneg (IntKind.u64.wrap a) (show (4 : Int) ≠ 0 by omega)
  have h4 := Int.emod_lt_of_pos (IntKind.u64.wrap a) (show (0 : Int) < 4 by omega)
  generalize (IntKind.u64.wrap a) % 4 = r at h3 h4
  exact ⟨r.toNat, by rw [IntWalk.wrap64_in _ (by omega)]; omega, by omega⟩

theorem xor255 (X : UInt8) : ∃ z : UInt8, bits .xor .u8 (X.toNat : Int) 255 = (z.toNat : Int) := by
  have : ∀ k : Fin 256, ∃ z : Fin 256, bits .xor .u8 (k.val : Int) 255 = (z.val : Int) := by
    intro k
    have h : bits .xor .u8 (k.val : Int) 255 = (((255 - k.val : Nat)) : Int) := by revert k; decide +kernel
    exact ⟨⟨255 - k.val, by omega⟩, h⟩
  obtain ⟨z, hz⟩ := this ⟨X.toNat, X.toNat_lt⟩
  refine ⟨byt z.val, ?_⟩
  rw [byt_toNat, Nat.mod_eq_of_lt z.isLt]
  exact hz

set_option maxRecDepth 100000 in
set_option maxHeartbeats 16000000 in
theorem WireScans_walk (w : World) (S : Nat → Prop) (v : Value) (b : List UInt8) (hr : Rs kByte w S v b) (S2 : Nat → Prop) (v2 : Value) (l : List (Int × Int × Unit)) (hr2 : Rs kAsk w S2 v2 l) :
    Calls Try.prog 9 #[v, v2] w fun e w' => e = .returned (.bool true) ∧ Ext w w' := by
  have HB := Lib.hid hr.under
  have HL := Lib.hid hr2.under
  obtain ⟨A, c, rfl, hl, hc, hz, hrow⟩ := hr
  obtain ⟨A2, c2, rfl, hl2, hc2, hz2, hrow2⟩ := hr2
  clear hrow hrow2
  by_cases hbig : 131072 < b.length ∨ 1000 < l.length
  · have h2 : ∀ h1 : 131072 < b.length ∨ b.length ≤ 131072 ∧ 1000 < l.length, Calls Try.prog 9 #[.slice A b.length c, .slice A2 l.length c2] w fun e w' => e = .returned (.bool true) ∧ Ext w w' := by
      intro h1
      rcases h1 with h1 | ⟨h1, h2⟩
      all_goals
        go_enter Try.func9, Try.ntmps9
        go_wp2_with fail
        refine (SumNil_calls _).mono ?_
        rintro e w' ⟨rfl, rfl⟩
        go_wp2
        go_ret
        exact ⟨rfl, Ext.refl _⟩
    exact h2 (by omega)
  have hle : b.length ≤ 131072 := by omega
  have hll : l.length ≤ 1000 := by omega
  clear hbig
  go_enter Try.func9, Try.ntmps9
  go_wp2_with fail
  refine (Clone_calls _ _ _ _ HB.out (by omega)).mono ?_
  rintro e w1 ⟨u, rfl, ho, he⟩
  have HG := Lib.hid ho
  have HE := Lib.hid he
  obtain ⟨Ag, cg, rfl, _⟩ := ho.rs
  clear ho he
  go_wp2_with fail
  refine (Over_calls _ _ _ _ HG.out.rs).mono ?_
  rintro e w2 ⟨p, q, rfl, hsc, he⟩
  have HSC := Lib.hid (hsc.mono (B' := fun x => w1.heap.size ≤ x ∧ x < w2.heap.size) fun x h1 h2 => ⟨h1, h2⟩)
  have HG2 := Lib.hid (HG.out.under.ext he)
  have HE2 := Lib.hid (HE.out.trans he)
  have hpq := hsc.mono (B' := fun x => w1.heap.size ≤ x ∧ x < w2.heap.size) (fun x h1 h2 => ⟨h1, h2⟩) |>.from_
  have HPQ := Lib.hid hpq
  have h01 := HE.out.le
  have h12 := he.le
  clear hsc he hpq HG HE
  go_wp2_with fail
  have HRC := Lib.hid (show Rc (w2.alloc (.cells #[.slice A b.length c, .int .i64 0, .int .i64 0] 57)) w2.heap.size (· < w.heap.size) ⟨b, 0, 0⟩ from
    ⟨_, heap_alloc_new _ _, (HB.out.ext HE2.out).alloc _, by omega, Nat.zero_le _, by show (0 : Nat) ≤ 10; omega⟩)
  have HSC3 := Lib.hid (HSC.out.ext ((Ext.refl w2).alloc (.cells #[.slice A b.length c, .int .i64 0, .int .i64 0] 57)))
  have HG3 := Lib.hid (HG2.out.alloc (.cells #[.slice A b.length c, .int .i64 0, .int .i64 0] 57))
  have HE3 := Lib.hid (HE2.out.alloc (.cells #[.slice A b.length c, .int .i64 0, .int .i64 0] 57))
  clear HSC HG2 HE2
  generalize w2.alloc (.cells #[.slice A b.length c, .int .i64 0, .int .i64 0] 57) = w3 at HRC HSC3 HG3 HE3 ⊢
  generalize hr0 : w2.heap.size = r at *
  clear hr0
  go_loopw [33] (fun i wr => ∃ (k : Nat) (xs : List UInt8), i = .int .i64 k ∧ k ≤ b.length ∧ xs.length = b.length ∧ Hid (Ow kByte 5 wr w.heap.size (· < w1.heap.size) (.slice Ag b.length cg) xs) ∧
    Hid (Sc wr (fun x => w1.heap.size ≤ x ∧ x < r) p q ⟨b, 0, 0⟩) ∧ Hid (Rc wr r (· < w.heap.size) ⟨b, 0, 0⟩) ∧ Hid (Ext w wr)) (fun i _ => b.length - (intOf i).toNat)
  case atStart => exact ⟨0, b, rfl, by omega, rfl, HG3, HSC3, HRC, HE3⟩
  case round =>
    obtain ⟨k, xs, rfl, hk, hxl, HO, HSW, HRW, HEW⟩ := hrel
    clear HG3 HSC3 HRC HE3
    by_cases hlt : k < b.length
    · have ho := HO.out
      rw [← hxl] at ho
      obtain ⟨g, cap, hv, hg1, hg2, hg3, hg4⟩ := ho.form (by omega)
      injection hv with e1 _ e3
      subst e1; subst e3
      have hcell := (ho.scell k (by omega)).1
      have hfr := (ho.scell k (by omega)).2
      have hset := fun z : UInt8 => (ho.sset k z trivial).1
      have HSET := Lib.hid hset
      have hki : (k : Int) < (b.length : Int) := by omega
      obtain ⟨z, hz1⟩ := xor255 xs[k]
      clear ho hset
      go_wp2_with fail
      have HU := Lib.hid ((Upd.refl (one g) wr).set (i := k) (.inl one_self) (.int .u8 (z.toNat : Int)))
      have HS4 := Lib.hid (HSW.out.upd HU.out (fun h => by have := (HPQ.out p (.inl rfl)).1; have : p = g := h; omega) (fun h => by have := (HPQ.out q (.inr rfl)).1; have : q = g := h; omega) (fun x hx _ _ _ h => by have := hx.1; have : x = g := h; omega))
      have HR4 := Lib.hid (HRW.out.upd HU.out (fun h => by have : r = g := h; omega) (fun x hx h => by have : x = g := h; omega))
      have HO4 := Lib.hid (HSET.out z)
      have HE4 := Lib.hid (HEW.out.seti (g := g) (i := k) hg1 (.int .u8 (z.toNat : Int)))
      clear hcell hfr
      go_roundw
      case rel => exact ⟨k + 1, xs.set k z, by go_num, by omega, by rw [List.length_set]; exact hxl, by rw [← hxl]; exact HO4, HS4, HR4, HE4⟩
      case measure => simp [intOf]; omega
    · clear HO
      go_wp2
      go_loopw [45] (fun i wr2 => ∃ (k : Nat) (s : ScS), i = .int .i64 k ∧ k ≤ l.length ∧ Hid (s.b = b) ∧ Hid (Sc wr2 (fun x => w1.heap.size ≤ x ∧ x < r) p q s) ∧ Hid (Rc wr2 r (· < w.heap.size) s) ∧ Hid (Ext w wr2)) (fun i _ => l.length - (intOf i).toNat)
      case atStart => exact ⟨0, ⟨b, 0, 0⟩, rfl, by omega, Lib.hid rfl, HSW, HRW, HEW⟩
      case round =>
        obtain ⟨j, s, rfl, hj, HSB, HS5, HR5, HE5⟩ := hrel
        clear HSW HRW HEW
        by_cases hjl : j < l.length
        · obtain ⟨ad, rfl, hca, hcb, hi1, hi2⟩ := (HL.out.ext HE5.out).shape.2.2.2.2.ask hjl
          have hji : (j : Int) < (l.length : Int) := by omega
          obtain ⟨J, hJ, hJ4⟩ := ask_at l[j].1
          clear hi1 hi2
          generalize l[j].1 = op at hca hJ
          generalize l[j].2.1 = most at hcb
          have hcb2 : wr.cell? ⟨(ad.add (j * 2)).block, (ad.add (j * 2)).off + 1, none⟩ = some (.int .i64 most) := by rw [← hcb, ← add_of_add]; rfl
          clear hcb
          have HSC0 := Lib.hid (HS5.out.ext ((Ext.refl wr).alloc (.cells #[.int .i64 op, .int .i64 most] 59)))
          have HRC0 := Lib.hid (HR5.out.ext ((Ext.refl wr).alloc (.cells #[.int .i64 op, .int .i64 most] 59)))
          have HE0 := Lib.hid (HE5.out.alloc (.cells #[.int .i64 op, .int .i64 most] 59))
          have HRPQ := Lib.hid (show ¬ two p q r from fun h => by have := (HPQ.out r h).2; omega)
          have HSPQ := Lib.hid (show ∀ x, x < w.heap.size → ¬ two p q x from fun x hx h => by have := (HPQ.out x h).1; omega)
          have HTW := Lib.hid (show ∀ x, two p q x → w.heap.size ≤ x from fun x h => by have := (HPQ.out x h).1; omega)
          have HPR := Lib.hid (show ¬ one r p from fun h => by have := (HPQ.out p (.inl rfl)).2; have : p = r := h; omega)
          have HQR := Lib.hid (show ¬ one r q from fun h => by have := (HPQ.out q (.inr rfl)).2; have : q = r := h; omega)
          have HDR := Lib.hid (show ∀ (W : World) x, (w1.heap.size ≤ x ∧ x < r) → x < W.heap.size → x ≠ p → x ≠ q → ¬ one r x from fun W x hx _ _ _ h => by have := hx.2; have : x = r := h; omega)
          have HRW := Lib.hid (show ∀ x, one r x → w.heap.size ≤ x from fun x h => by have : x = r := h; omega)
          rcases (by omega : J = 0 ∨ J = 1 ∨ J = 2 ∨ J = 3) with rfl | rfl | rfl | rfl
          · go_wp2_with fail
            refine (ScNumber_calls _ _ p q _ HSC0.out).mono ?_
            rintro e w6 ⟨rfl, hsc, hup⟩
            have HSC6 := Lib.hid hsc
            have HRC6 := Lib.hid (HRC0.out.upd hup HRPQ.out HSPQ.out)
            have HE6 := Lib.hid (hup.ext HE0.out HTW.out)
            clear hsc hup HSC0 HRC0 HE0
            go_wp2_with fail
            refine (RcNumber_calls _ r _ _ HRC6.out).mono ?_
            rintro e w7 ⟨rfl, hrc, hup⟩
            have HRC7 := Lib.hid hrc
            have HSC7 := Lib.hid (HSC6.out.upd hup HPR.out HQR.out (HDR.out _))
            have HE7 := Lib.hid (hup.ext HE6.out HRW.out)
            clear hrc hup
            have HSB7 := Lib.hid ((number_b s).trans HSB.out)
            generalize s.number = sn at HRC7 HSC7 HSB7 ⊢
            obtain ⟨res, s'⟩ := sn
            simp only at HRC7 HSC7 HSB7
            clear HSC6 HRC6 HE6 hJ hca hcb2 HS5 HR5 HE5
            obtain ⟨sb, sat, se⟩ := s'
            simp only at HSB7
            obtain rfl := HSB7.out
            obtain ⟨x1, x2, _, _, Ar, cr, _, _⟩ := HRC7.out.cells
            have hat := HRC7.out.ok_.1
            simp only at x1 x2 hat
            have HERR := Lib.hid (fun (j : Nat) => show Calls Try.prog 30 #[.pointer (some ⟨p, 0, none⟩)] (w7.drewN j) (fun e w' => e = .returned (.int .i64 (se : Int)) ∧ w' = w7.drewN j) from
              (Err_calls _ _ p q _ (HSC7.out.drewN j)).mono fun _ _ ⟨h1, h2⟩ => ⟨h1, h2.symm⟩)
            have HLEFT := Lib.hid (fun (j : Nat) => show Calls Try.prog 29 #[.pointer (some ⟨p, 0, none⟩)] (w7.drewN j) (fun e w' => e = .returned (.int .i64 ((sb.length - sat : Nat) : Int)) ∧ ∃ m, w' = (w7.drewN j).drewN m) from Left_calls _ _ p q _ (HSC7.out.drewN j))
            have hwr : IntKind.i64.wrap ((sb.length : Int) - (sat : Int)) = ((sb.length - sat : Nat) : Int) := by rw [IntWalk.i64_in _ (by omega)]; omega
            go_wp2
            go_quiet ((first | (go_at_call 30; exact Calls.quiet_of_same (HERR.out _)) | (go_at_call 29; exact Calls.quiet_of (HLEFT.out _))))
            have HSC8 := Lib.hid (HSC7.out.drewN nq)
            have HRC8 := Lib.hid (HRC7.out.drewN nq)
            have HE8 := Lib.hid (HE7.out.drewN nq)
            clear HERR HLEFT hwr x1 x2
            go_wp2
            go_roundw
            case rel => exact ⟨j + 1, ⟨sb, sat, se⟩, by go_num, by omega, Lib.hid rfl, HSC8, HRC8, HE8⟩
            case measure => simp [intOf]; omega
          · have HKC := Lib.hid (show (wr.alloc (.cells #[.int .i64 op, .int .i64 most] 59)).cell? ⟨wr.heap.size, 1, none⟩ = some (.int .i64 most) by rw [cell_blk (heap_alloc_new _ _)]; rfl)
            have hkr : r < wr.heap.size := by obtain ⟨_, h1, _⟩ := HR5.out; exact blk_lt h1
            have HKPQ := Lib.hid (show ¬ two p q wr.heap.size from fun h => by have := (HPQ.out _ h).2; omega)
            have HKR := Lib.hid (show ¬ one r wr.heap.size from fun h => by have : wr.heap.size = r := h; omega)
            go_wp2_with fail
            generalize wr.alloc (.cells #[.int .i64 op, .int .i64 most] 59) = W0 at HSC0 HRC0 HE0 HKC ⊢
            go_region_held3 (fun W => W.cell? ⟨wr.heap.size, 1, none⟩ = some (.int .i64 most))
              (first | exact HKC.out | exact cell_upd (by assumption) ‹Upd (one r) _ _› HKR.out | exact cell_upd (w := W0.drew) HKC.out ‹Upd (two p q) _ _› HKPQ.out)
              (first | (go_at_call 27; refine (ScText_calls _ _ p q _ (HSC0.out.heap (w' := W0.drew) rfl) most).mono ?_; rintro e w6 ⟨rfl, hsc, hup⟩) | (go_at_call 38; refine (RcText_calls _ r _ _ ((HRC0.out.heap (w' := W0.drew) rfl).upd ‹Upd (two p q) _ _› HRPQ.out HSPQ.out) most).mono ?_; rintro e w7 ⟨rfl, hrc, hup2⟩))
            have HSC6 := Lib.hid hsc
            have HE6 := Lib.hid (hup.ext (show Ext w W0.drew from HE0.out.drew) HTW.out)
            have HRC6 := Lib.hid True.intro
            have HRC7 := Lib.hid hrc
            have HSC7 := Lib.hid (hsc.upd hup2 HPR.out HQR.out (HDR.out _))
            have HE7 := Lib.hid (hup2.ext HE6.out HRW.out)
            have HSB7 := Lib.hid ((text_b s most).trans HSB.out)
            clear hsc hup hrc hup2 HSC0 HRC0 HE0 HKC
            generalize s.text most = sn at HRC7 HSC7 HSB7 ⊢
            obtain ⟨res, s'⟩ := sn
            simp only at HRC7 HSC7 HSB7
            clear HSC6 HRC6 HE6 hJ hca hcb2 HS5 HR5 HE5
            obtain ⟨sb, sat, se⟩ := s'
            simp only at HSB7
            obtain rfl := HSB7.out
            obtain ⟨x1, x2, _, _, Ar, cr, _, _⟩ := HRC7.out.cells
            have hat := HRC7.out.ok_.1
            simp only at x1 x2 hat
            have HERR := Lib.hid (fun (j : Nat) => show Calls Try.prog 30 #[.pointer (some ⟨p, 0, none⟩)] (w7.drewN j) (fun e w' => e = .returned (.int .i64 (se : Int)) ∧ w' = w7.drewN j) from
              (Err_calls _ _ p q _ (HSC7.out.drewN j)).mono fun _ _ ⟨h1, h2⟩ => ⟨h1, h2.symm⟩)
            have HLEFT := Lib.hid (fun (j : Nat) => show Calls Try.prog 29 #[.pointer (some ⟨p, 0, none⟩)] (w7.drewN j) (fun e w' => e = .returned (.int .i64 ((sb.length - sat : Nat) : Int)) ∧ ∃ m, w' = (w7.drewN j).drewN m) from Left_calls _ _ p q _ (HSC7.out.drewN j))
            have hwr : IntKind.i64.wrap ((sb.length : Int) - (sat : Int)) = ((sb.length - sat : Nat) : Int) := by rw [IntWalk.i64_in _ (by omega)]; omega
            go_wp2
            go_quiet ((first | (go_at_call 30; exact Calls.quiet_of_same (HERR.out _)) | (go_at_call 29; exact Calls.quiet_of (HLEFT.out _))))
            have HSC8 := Lib.hid (HSC7.out.drewN nq)
            have HRC8 := Lib.hid (HRC7.out.drewN nq)
            have HE8 := Lib.hid (HE7.out.drewN nq)
            clear HERR HLEFT hwr x1 x2
            go_wp2
            go_roundw
            case rel => exact ⟨j + 1, ⟨sb, sat, se⟩, by go_num, by omega, Lib.hid rfl, HSC8, HRC8, HE8⟩
            case measure => simp [intOf]; omega
          · go_wp2_with fail
            refine (ScFlag_calls _ _ p q _ HSC0.out).mono ?_
            rintro e w6 ⟨rfl, hsc, hup⟩
            have HSC6 := Lib.hid hsc
            have HRC6 := Lib.hid (HRC0.out.upd hup HRPQ.out HSPQ.out)
            have HE6 := Lib.hid (hup.ext HE0.out HTW.out)
            clear hsc hup HSC0 HRC0 HE0
            go_wp2_with fail
            refine (RcFlag_calls _ r _ _ HRC6.out).mono ?_
            rintro e w7 ⟨rfl, hrc, hup⟩
            have HRC7 := Lib.hid hrc
            have HSC7 := Lib.hid (HSC6.out.upd hup HPR.out HQR.out (HDR.out _))
            have HE7 := Lib.hid (hup.ext HE6.out HRW.out)
            clear hrc hup
            have HSB7 := Lib.hid ((flag_b s).trans HSB.out)
            generalize s.flag = sn at HRC7 HSC7 HSB7 ⊢
            obtain ⟨res, s'⟩ := sn
            simp only at HRC7 HSC7 HSB7
            clear HSC6 HRC6 HE6 hJ hca hcb2 HS5 HR5 HE5
            obtain ⟨sb, sat, se⟩ := s'
            simp only at HSB7
            obtain rfl := HSB7.out
            obtain ⟨x1, x2, _, _, Ar, cr, _, _⟩ := HRC7.out.cells
            have hat := HRC7.out.ok_.1
            simp only at x1 x2 hat
            have HERR := Lib.hid (fun (j : Nat) => show Calls Try.prog 30 #[.pointer (some ⟨p, 0, none⟩)] (w7.drewN j) (fun e w' => e = .returned (.int .i64 (se : Int)) ∧ w' = w7.drewN j) from
              (Err_calls _ _ p q _ (HSC7.out.drewN j)).mono fun _ _ ⟨h1, h2⟩ => ⟨h1, h2.symm⟩)
            have HLEFT := Lib.hid (fun (j : Nat) => show Calls Try.prog 29 #[.pointer (some ⟨p, 0, none⟩)] (w7.drewN j) (fun e w' => e = .returned (.int .i64 ((sb.length - sat : Nat) : Int)) ∧ ∃ m, w' = (w7.drewN j).drewN m) from Left_calls _ _ p q _ (HSC7.out.drewN j))
            have hwr : IntKind.i64.wrap ((sb.length : Int) - (sat : Int)) = ((sb.length - sat : Nat) : Int) := by rw [IntWalk.i64_in _ (by omega)]; omega
            go_wp2
            go_quiet ((first | (go_at_call 30; exact Calls.quiet_of_same (HERR.out _)) | (go_at_call 29; exact Calls.quiet_of (HLEFT.out _))))
            have HSC8 := Lib.hid (HSC7.out.drewN nq)
            have HRC8 := Lib.hid (HRC7.out.drewN nq)
            have HE8 := Lib.hid (HE7.out.drewN nq)
            clear HERR HLEFT hwr x1 x2
            go_wp2
            go_roundw
            case rel => exact ⟨j + 1, ⟨sb, sat, se⟩, by go_num, by omega, Lib.hid rfl, HSC8, HRC8, HE8⟩
            case measure => simp [intOf]; omega
          · go_wp2_with fail
            refine (ScEnd_calls _ _ p q _ HSC0.out).mono ?_
            rintro e w6 ⟨rfl, hsc, hup⟩
            have HSC6 := Lib.hid hsc
            have HRC6 := Lib.hid (HRC0.out.upd hup HRPQ.out HSPQ.out)
            have HE6 := Lib.hid (hup.ext HE0.out HTW.out)
            clear hsc hup HSC0 HRC0 HE0
            go_wp2_with fail
            refine (RcEnd_calls _ r _ _ HRC6.out).mono ?_
            rintro e w7 ⟨rfl, hrc, hup⟩
            have HRC7 := Lib.hid hrc
            have HSC7 := Lib.hid (HSC6.out.upd hup HPR.out HQR.out (HDR.out _))
            have HE7 := Lib.hid (hup.ext HE6.out HRW.out)
            clear hrc hup
            have HSB7 := Lib.hid ((end_b s).trans HSB.out)
            generalize s.end_ = s' at HRC7 HSC7 HSB7 ⊢
            clear HSC6 HRC6 HE6 hJ hca hcb2 HS5 HR5 HE5
            obtain ⟨sb, sat, se⟩ := s'
            simp only at HSB7
            obtain rfl := HSB7.out
            obtain ⟨x1, x2, _, _, Ar, cr, _, _⟩ := HRC7.out.cells
            have hat := HRC7.out.ok_.1
            simp only at x1 x2 hat
            have HERR := Lib.hid (fun (j : Nat) => show Calls Try.prog 30 #[.pointer (some ⟨p, 0, none⟩)] (w7.drewN j) (fun e w' => e = .returned (.int .i64 (se : Int)) ∧ w' = w7.drewN j) from
              (Err_calls _ _ p q _ (HSC7.out.drewN j)).mono fun _ _ ⟨h1, h2⟩ => ⟨h1, h2.symm⟩)
            have HLEFT := Lib.hid (fun (j : Nat) => show Calls Try.prog 29 #[.pointer (some ⟨p, 0, none⟩)] (w7.drewN j) (fun e w' => e = .returned (.int .i64 ((sb.length - sat : Nat) : Int)) ∧ ∃ m, w' = (w7.drewN j).drewN m) from Left_calls _ _ p q _ (HSC7.out.drewN j))
            have hwr : IntKind.i64.wrap ((sb.length : Int) - (sat : Int)) = ((sb.length - sat : Nat) : Int) := by rw [IntWalk.i64_in _ (by omega)]; omega
            go_wp2
            go_quiet ((first | (go_at_call 30; exact Calls.quiet_of_same (HERR.out _)) | (go_at_call 29; exact Calls.quiet_of (HLEFT.out _))))
            have HSC8 := Lib.hid (HSC7.out.drewN nq)
            have HRC8 := Lib.hid (HRC7.out.drewN nq)
            have HE8 := Lib.hid (HE7.out.drewN nq)
            clear HERR HLEFT hwr x1 x2
            go_wp2
            go_roundw
            case rel => exact ⟨j + 1, ⟨sb, sat, se⟩, by go_num, by omega, Lib.hid rfl, HSC8, HRC8, HE8⟩
            case measure => simp [intOf]; omega
        · obtain rfl : j = l.length := by omega
          obtain ⟨x1, x2, _, _, Ar, cr, _, _⟩ := HR5.out.cells
          have hat := HR5.out.ok_.1
          have hkr : r < wr.heap.size := by obtain ⟨_, h1, _⟩ := HR5.out; exact blk_lt h1
          obtain ⟨sb, sat, se⟩ := s
          simp only at x1 x2 hat HSB
          obtain rfl := HSB.out
          have HX1 := Lib.hid x1
          have HKR := Lib.hid hkr
          have hwr : IntKind.i64.wrap ((sb.length : Int) - (sat : Int)) = ((sb.length - sat : Nat) : Int) := by rw [IntWalk.i64_in _ (by omega)]; omega
          have h7 : ((ScS.number ⟨[7], 0, 0⟩).1 : Int) = 7 := by decide
          have H7 := Lib.hid h7
          clear x2 h7
          go_wp2_with fail
          go_region_held3 (fun W => W.cell? ⟨r, 1, none⟩ = some (.int .i64 (sat : Int)))
            (first | exact HX1.out | exact cell_ext HX1.out (((Ext.refl wr).drewN _).alloc _) | (refine hfar r 1 _ (Nat.lt_succ_self r) ?_; assumption) | (refine cell_ext ?_ hext'; assumption) | (refine cell_ext ?_ hext'; exact HX1.out))
            (first | (go_at_call 29; refine (Left_calls _ _ p q _ (HS5.out.heap (w' := wr.drew) rfl)).mono ?_; rintro e w6 ⟨rfl, m6, rfl⟩) | (go_at_call 32; refine (Over_calls _ _ _ _ (Rs.one_byte _ _ 5 rfl 7)).mono ?_; rintro e w7 ⟨p', q', rfl, hsc', hext'⟩) | (go_at_call 26; refine (ScNumber_far _ _ _ _ _ hsc' (r + 1) (fun k hk => Nat.le_trans (Nat.le_trans HKR.out (Ext.le (((Ext.refl wr).drewN (1 + m6)).alloc (.cells #[encB 7] 5)))) (hsc'.from_ k hk))).mono ?_; rw [H7.out]; rintro e w8 ⟨rfl, hfar, hup'⟩))
          all_goals
            have HEF := Lib.hid (hup'.ext (((HE5.out.drewN (1 + m6)).alloc (.cells #[encB 7] 5)).trans hext') (fun k hk => Nat.le_trans (Ext.le ((HE5.out.drewN (1 + m6)).alloc (.cells #[encB 7] 5))) (hsc'.from_ k hk)))
            go_wp2
            go_ret
            exact ⟨rfl, HEF.out⟩
end Go.Proofs.Ytikbpgcalmndoaa
