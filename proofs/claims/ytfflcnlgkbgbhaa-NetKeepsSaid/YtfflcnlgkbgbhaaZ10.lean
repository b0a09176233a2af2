/-
  Texts of this claim, put together: MsgRw, Nobody, Pick, MsgGt.
-/
import Derived.Test.YtfflcnlgkbgbhaaZ9
import Derived.Test.YtfflcnlgkbgbhaaZ7
import Derived.Test.YtfflcnlgkbgbhaaZ1
import Derived.BigQuiet
import Derived.Test.YtfflcnlgkbgbhaaZ6
import Derived.Deep.RegionHeld3
import Derived.IntWalk
set_option linter.unusedVariables false
set_option linter.unusedSimpArgs false
namespace Go.Proofs.Ytfflcnlgkbgbhaa
open Go.RowKit

set_option maxRecDepth 1000000 in
set_option maxHeartbeats 8000000 in
theorem read_calls (w : World) (S : Nat → Prop) (v : Value) (bs : List UInt8) (hr : Rs kByte w S v bs) :
    Calls Try.prog 55 #[v] w fun e w' => ∃ mv, e = .returned (.tuple #[mv, .bool (okP (readP bs))]) ∧ MsgV w' (w.heap.size ≤ ·) mv (readP bs).1 ∧ Ext w w' := by
  have HR := Lib.hid hr
  obtain ⟨A, c, rfl, hl, hc, hz, hrow⟩ := hr
  clear hrow
  go_enter Try.func55, Try.ntmps55
  go_wp2_with fail
  obtain ⟨w1, hw1⟩ : ∃ w1, w1 = w.alloc (.cells (msgC zeroM (.slice none 0 0) (.slice none 0 0) (.slice none 0 0)) 26) := ⟨_, rfl⟩
  have hs1 : w1.heap.size = w.heap.size + 1 := by rw [hw1]; simp
  have HB1 := Lib.hid (show w1.heap[w.heap.size]? = some (.cells (msgC zeroM (.slice none 0 0) (.slice none 0 0) (.slice none 0 0)) 26 (0, 0)) by rw [hw1]; exact heap_new w _ rfl _)
  have HX1 := Lib.hid (show Ext w w1 by rw [hw1]; exact (Ext.refl w).alloc _)
  unfold msgC zeroM at hw1
  rw [← hw1]
  clear hw1
  obtain ⟨w2, hw2⟩ : ∃ w2, w2 = w1.alloc (.cells (headC8 []) 26) := ⟨_, rfl⟩
  have hs2 : w2.heap.size = w.heap.size + 2 := by rw [hw2]; simp; omega
  have HB2 := Lib.hid (show w2.heap[w.heap.size + 1]? = some (.cells (headC8 []) 26 (0, 0)) by rw [hw2]; exact heap_new w1 _ hs1 _)
  have HX2 := Lib.hid (show Ext w1 w2 by rw [hw2]; exact (Ext.refl w1).alloc _)
  simp only [headC8, tailC8, List.map_nil, List.nil_append, List.length_nil, Nat.sub_zero, List.replicate, List.cons_append] at hw2
  rw [← hw2]
  clear hw2
  refine (Over_calls w2 _ _ bs ((HR.out.ext HX1.out).ext HX2.out)).mono ?_
  rintro e w3 ⟨p, q, rfl, hsc, hx⟩
  have hp := (show w2.heap.size ≤ p ∧ w2.heap.size ≤ q from by obtain ⟨_, _, _, _, _, _, h1, h2⟩ := hsc; exact ⟨h1, h2⟩)
  have hpl := (show p < w3.heap.size ∧ q < w3.heap.size from by obtain ⟨_, h1, h2, _⟩ := hsc; exact ⟨blk_lt h1, blk_lt h2⟩)
  obtain ⟨c1, hc1⟩ : ∃ c1, c1 = w3.heap.size := ⟨_, rfl⟩
  have h23 := hx.le
  have HTW := Lib.hid (show ∀ b, two p q b → w2.heap.size ≤ b ∧ b < w3.heap.size from fun b h => by rcases h with h | h <;> subst h <;> omega)
  have HL := Lib.hid (show Lay w (fun b => w2.heap.size ≤ b ∧ b < c1) (fun W s => Sc W (fun b => w2.heap.size ≤ b ∧ b < c1) p q s) (w.heap.size + 1) w.heap.size (c1 ≤ ·) (fun _ => False) from
    ⟨by omega, by omega, by omega, fun b h => by omega, fun b h => by have : c1 ≤ b := h; omega, fun b h => h.elim, fun b h h2 => h2, fun {W W' s} h hk => by
      obtain ⟨v, h1, h2, h3, h4, h5, h6, h7⟩ := h
      exact ⟨v, (hk p (blk_lt h1) (.inr h6)).trans h1, (hk q (blk_lt h2) (.inr h7)).trans h2, h3.keep fun b hb hl => hk b hl (.inr hb.1), h4, h5, h6, h7⟩⟩)
  have HRD := Lib.hid (show RdW w c1 (fun W s => Sc W (fun b => w2.heap.size ≤ b ∧ b < c1) p q s) (w.heap.size + 1) w.heap.size (c1 ≤ ·) (fun _ => False) w3 (headC8 []) (.slice none 0 0) [] (.slice none 0 0) [] ⟨bs, 0, 0⟩ from
    ⟨blk_ext HB2.out hx, blk_ext (blk_ext HB1.out HX2.out) hx, by
      obtain ⟨v, h1, h2, h3, h4, h5, h6, h7⟩ := hsc
      exact ⟨v, h1, h2, h3.bound.mono fun b hb => ⟨⟨hb.1.1, by omega⟩, hb.1.2⟩, h4, h5, by omega, by omega⟩, Ow.nil _ _ _ _ _, Ow.nil _ _ _ _ _, (HX1.out.trans HX2.out).trans hx, by omega⟩)
  rw [hs2] at HTW HL HRD
  clear hsc hx HB1 HB2 HX1 HX2 HR hp hpl
  obtain ⟨X, hX⟩ : ∃ X : World → ScS → Prop, X = (fun W s => Sc W (fun b => w.heap.size + 2 ≤ b ∧ b < c1) p q s) := ⟨_, rfl⟩
  have HZ := Lib.hid (show ScnP X (fun b => w2.heap.size ≤ b ∧ b < c1) p q from
    ⟨fun W s h => by rw [hX] at h; exact ⟨_, h, fun W' s' h' => by rw [hX]; exact h'⟩, fun W W' h => h.mono fun b hb => by have := HTW.out b hb; omega⟩)
  rw [hs2] at HZ
  rw [← hX] at HL HRD
  clear hX
  clear HTW
  go_wp2_with fail
  refine (numbers_calls _ (w.heap.size + 1)).mono ?_
  rintro e w4 ⟨g, rfl, hgl, hgb, hx⟩
  have HG := Lib.hid hgb
  have HRD4 := Lib.hid (HRD.out.ext_ HL.out hx)
  have hgc : c1 ≤ g := by omega
  clear hgb hx HRD
  go_wp2_with fail
  go_loopw [16] (fun i wr => ∃ k : Nat, k ≤ 8 ∧ i = .int .i64 k ∧ Hid (RdW w c1 X (w.heap.size + 1) w.heap.size (c1 ≤ ·) (fun _ => False) wr (headC8 (numsA ⟨bs, 0, 0⟩ k).1) (.slice none 0 0) [] (.slice none 0 0) [] (numsA ⟨bs, 0, 0⟩ k).2) ∧ Hid (wr.heap[g]? = some (.cells (ptrs (w.heap.size + 1) 8) 78 (0, 0)))) (fun i _ => 8 - (intOf i).toNat)
  case atStart => exact ⟨0, by omega, rfl, HRD4, HG⟩
  case round =>
    clear HRD4 HG
    obtain ⟨k, hk, rfl, HRD, HG⟩ := hrel
    by_cases hlt : k < 8
    · have hcp : wr.cell? ⟨g, k, none⟩ = some (.pointer (some ⟨w.heap.size + 1, k, none⟩)) := (cell_blk HG.out k).trans (ptrs_at _ _ _ hlt)
      have HNL := Lib.hid (numsA_len ⟨bs, 0, 0⟩ k)
      go_wp2_with fail
      refine (HZ.out.number HL.out HRD.out (s' := (numsA ⟨bs, 0, 0⟩ k).2.number.2) rfl).mono ?_
      rintro e w5 ⟨rfl, hrd, hup⟩
      have HRD5 := Lib.hid hrd
      have HG5 := Lib.hid (blk_upd HG.out hup (fun h => by omega))
      have hcm : w5.cell? ⟨w.heap.size + 1, k, none⟩ = some (.int .i64 0) := by
        have h := cell_blk HRD5.out.msg k
        rw [h]
        have h2 := headC8_at (numsA ⟨bs, 0, 0⟩ k).1 (by rw [HNL.out]; exact hlt)
        rw [HNL.out] at h2; exact h2
      have hfm : w5.frozen? ⟨w.heap.size + 1, k, none⟩ = false := frozen_blk HRD5.out.msg k
      clear hrd hup HRD HG
      have HRD6 := Lib.hid (show RdW w c1 X (w.heap.size + 1) w.heap.size (c1 ≤ ·) (fun _ => False) (w5.setCell ⟨w.heap.size + 1, k, none⟩ (.int .i64 ((numsA ⟨bs, 0, 0⟩ k).2.number.1 : Int))) (headC8 (numsA ⟨bs, 0, 0⟩ (k + 1)).1) (.slice none 0 0) [] (.slice none 0 0) [] (numsA ⟨bs, 0, 0⟩ (k + 1)).2 from by
        have h := HRD5.out.set HL.out k (.int .i64 ((numsA ⟨bs, 0, 0⟩ k).2.number.1 : Int))
        have h2 := headC8_snoc (numsA ⟨bs, 0, 0⟩ k).1 (numsA ⟨bs, 0, 0⟩ k).2.number.1 (by rw [HNL.out]; exact hlt)
        rw [HNL.out] at h2
        rw [h2] at h
        exact h)
      have HG6 := Lib.hid (show (w5.setCell ⟨w.heap.size + 1, k, none⟩ (.int .i64 ((numsA ⟨bs, 0, 0⟩ k).2.number.1 : Int))).heap[g]? = some (.cells (ptrs (w.heap.size + 1) 8) 78 (0, 0)) from by
        rw [heap_setCell_other w5 ⟨w.heap.size + 1, k, none⟩ g _ (fun e => by have : g = w.heap.size + 1 := e; omega)]
        exact HG5.out)
      clear HRD5 HG5 HNL hcp
      go_wp2_with fail
      go_roundw
      case rel => exact ⟨k + 1, by omega, by go_num, HRD6, HG6⟩
      case measure => simp [intOf]; omega
    · obtain rfl : k = 8 := by omega
      clear hlt HG hgl hgc
      have HLN := Lib.hid (numsA_len ⟨bs, 0, 0⟩ 8)
      obtain ⟨NA, hNA⟩ : ∃ NA, NA = numsA ⟨bs, 0, 0⟩ 8 := ⟨_, rfl⟩
      rw [← hNA] at HRD HLN
      have HNA := Lib.hid hNA
      clear hNA
      obtain ⟨xs, s8⟩ := NA
      have hxl := HLN.out
      simp only at hxl
      clear HLN
      obtain ⟨a0, a1, a2, a3, a4, a5, a6, a7, rfl⟩ : ∃ a0 a1 a2 a3 a4 a5 a6 a7, xs = [a0, a1, a2, a3, a4, a5, a6, a7] := by
        match xs, hxl with
        | [a0, a1, a2, a3, a4, a5, a6, a7], _ => exact ⟨_, _, _, _, _, _, _, _, rfl⟩
      clear hxl
      obtain ⟨y, sy, q8⟩ := asPair s8.flag
      obtain ⟨d, sd, q9⟩ := asPair sy.flag
      obtain ⟨c, sc, q10⟩ := asPair sd.number
      obtain ⟨es, se, q11⟩ := asPair (rdEnts true (a4 : Int) c 9 0 sc)
      obtain ⟨v, sv, q12⟩ := asPair se.number
      obtain ⟨vs, svs, q13⟩ := asPair (rdNums true v 8 0 sv)
      obtain ⟨t, st, q14⟩ := asPair (svs.text 512)
      have HQ := Lib.hid (show readP bs = (⟨a0, a1, a2, a3, a4, a5, a6, a7, y, d, es, vs, t⟩, c, v, st) from rdMsg_of HNA.out q8 q9 q10 q11 q12 q13 q14)
      have HTL := Lib.hid (show t.length ≤ 512 by have := text_len svs 512; rw [q14] at this; simpa using this)
      have Q9 := Lib.hid q9
      have Q10 := Lib.hid q10
      have Q11 := Lib.hid q11
      have Q12 := Lib.hid q12
      have Q13 := Lib.hid q13
      have Q14 := Lib.hid q14
      have HAB := Lib.hid (show ∀ x ∈ [a0, a1, a2, a3, a4, a5, a6, a7], x < 9223372036854775808 from by
        have h := (numsA_ok ⟨bs, 0, 0⟩ ⟨Nat.zero_le _, by show (0 : Nat) ≤ 10; omega⟩ 8).2
        rw [← HNA.out] at h; exact h)
      clear HNA q9 q10 q11 q12 q13 q14
      have HRDa := Lib.hid (show RdW w c1 X (w.heap.size + 1) w.heap.size (c1 ≤ ·) (fun _ => False) wr (msgC ⟨a0, a1, a2, a3, a4, a5, a6, a7, false, false, [], [], []⟩ (.slice none 0 0) (.slice none 0 0) (.slice none 0 0)) (.slice none 0 0) [] (.slice none 0 0) [] s8 from HRD.out)
      clear HRD
      go_wp2_with fail
      refine (HZ.out.flag HL.out HRDa.out q8).mono ?_
      rintro e w6 ⟨rfl, hrd, -⟩
      have HRD6 := Lib.hid hrd
      clear hrd HRDa q8
      go_wp2_with fail
      refine (HZ.out.flag HL.out HRD6.out Q9.out).mono ?_
      rintro e w7 ⟨rfl, hrd, -⟩
      have hc8 : w7.cell? ⟨w.heap.size + 1, 8, none⟩ = some (.bool false) := cell_blk hrd.msg 8
      have hc9 : w7.cell? ⟨w.heap.size + 1, 9, none⟩ = some (.bool false) := cell_blk hrd.msg 9
      have hf8 : w7.frozen? ⟨w.heap.size + 1, 8, none⟩ = false := frozen_blk hrd.msg 8
      have hf9 : w7.frozen? ⟨w.heap.size + 1, 9, none⟩ = false := frozen_blk hrd.msg 9
      have HRD8 := Lib.hid (show RdW w c1 X (w.heap.size + 1) w.heap.size (c1 ≤ ·) (fun _ => False) ((w7.setCell ⟨w.heap.size + 1, 8, none⟩ (.bool y)).setCell ⟨w.heap.size + 1, 9, none⟩ (.bool d)) (msgC ⟨a0, a1, a2, a3, a4, a5, a6, a7, y, d, [], [], []⟩ (.slice none 0 0) (.slice none 0 0) (.slice none 0 0)) (.slice none 0 0) [] (.slice none 0 0) [] sd from (hrd.set HL.out 8 (.bool y)).set HL.out 9 (.bool d))
      clear hrd HRD6
      go_wp2_with fail
      have hok := HZ.out.ok HRD8.out
      have hcb : c < 9223372036854775808 := by have := (ScS.ok_number hok).2; rw [Q10.out] at this; exact this
      clear hok
      refine (HZ.out.number HL.out HRD8.out Q10.out).mono ?_
      rintro e w9 ⟨rfl, hrd, -⟩
      have HRD9 := Lib.hid hrd
      clear hrd HRD8 hc8 hc9 hf8 hf9
      go_wp2_with fail
      go_loopw [9] (fun i wr => ∃ (k : Nat) (es1 : List EntS) (ve : Value) (s : ScS), i = .int .i64 k ∧ k ≤ 9 ∧ es1.length = k ∧ Hid (RdW w c1 X (w.heap.size + 1) w.heap.size (c1 ≤ ·) (fun _ => False) wr (msgC ⟨a0, a1, a2, a3, a4, a5, a6, a7, y, d, [], [], []⟩ ve (.slice none 0 0) (.slice none 0 0)) ve es1 (.slice none 0 0) [] s) ∧
        Hid ((es, se) = (es1 ++ (rdEnts true (a4 : Int) c (9 - k) k s).1, (rdEnts true (a4 : Int) c (9 - k) k s).2))) (fun i _ => 9 - (intOf i).toNat)
      case atStart => exact ⟨0, [], _, sc, rfl, by omega, rfl, HRD9, Lib.hid (by rw [show 9 - 0 = 9 from rfl, Q11.out]; rfl)⟩
      case round =>
        clear HRD9 Q11
        obtain ⟨k, es1, ve, s, rfl, hk, hel, HRD, HE⟩ := hrel
        obtain ⟨b, hb⟩ : ∃ b, b = decide (k < c ∧ k ≤ 8 ∧ s.e = 0) := ⟨_, rfl⟩
        go_upto_region 11 with fail
        refine rw11 w X _ (w.heap.size + 1) w.heap.size c1 p q c1 (c1 ≤ ·) (fun _ => False) HL HZ _ ve (.slice none 0 0) es1 [] s k c hk hcb b hb HRD ?_
        intros
        rename_i wx hrel
        have HRD2 := hrel
        clear hrel HRD
        cases b
        · have hnc := of_decide_eq_false hb.symm
          have HEN := Lib.hid (show es = es1 ∧ se = s by
            have h := HE.out
            rw [rdEnts_stop hk hnc, List.append_nil] at h
            injection h with h1 h2
            exact ⟨h1, h2⟩)
          clear HE hnc hb
          obtain ⟨rfl, rfl⟩ := HEN.out
          clear HEN
          have hel9 : es.length ≤ 9 := by omega
          clear hk hel
          go_wp2_with fail
          have hvb : v < 9223372036854775808 := by have := (ScS.ok_number (HZ.out.ok HRD2.out)).2; rw [Q12.out] at this; exact this
          refine (HZ.out.number HL.out HRD2.out Q12.out).mono ?_
          rintro e w12 ⟨rfl, hrd, -⟩
          have hbig := hrd.big
          have HRD3 := Lib.hid hrd.shutE
          obtain ⟨c2, hc2⟩ : ∃ c2, c2 = w12.heap.size := ⟨_, rfl⟩
          rw [← hc2] at HRD3 hbig
          have HL2 := Lib.hid (HL.out.shutE (c := c2) (by omega) (by omega) (by omega) (fun b hb => by omega))
          clear hrd HRD2 hc2
          go_wp2_with fail
          go_loopw [11] (fun i wr => ∃ (k : Nat) (vs1 : List Int) (vv : Value) (s : ScS), i = .int .i64 k ∧ k ≤ 8 ∧ vs1.length = k ∧ Hid (RdW w c2 X (w.heap.size + 1) w.heap.size (fun b => c1 ≤ b ∧ b < c2) (c2 ≤ ·) wr (msgC ⟨a0, a1, a2, a3, a4, a5, a6, a7, y, d, [], [], []⟩ ve vv (.slice none 0 0)) ve es vv vs1 s) ∧
            Hid ((vs, svs) = (vs1 ++ (rdNums true v (8 - k) k s).1, (rdNums true v (8 - k) k s).2))) (fun i _ => 8 - (intOf i).toNat)
          case atStart => exact ⟨0, [], _, sv, rfl, by omega, rfl, HRD3, Lib.hid (by rw [show 8 - 0 = 8 from rfl, Q13.out]; rfl)⟩
          case round =>
            clear HRD3 Q13
            obtain ⟨k, vs1, vv, s, rfl, hk, hvl, HRD, HE⟩ := hrel
            obtain ⟨b, hb⟩ : ∃ b, b = decide (k < v ∧ k ≤ 7 ∧ s.e = 0) := ⟨_, rfl⟩
            go_upto_region 16 with fail
            refine rw16 w X _ (w.heap.size + 1) w.heap.size c2 p q c2 (fun b => c1 ≤ b ∧ b < c2) (c2 ≤ ·) HL2 HZ _ ve vv es vs1 s k v hk hvb b hb HRD ?_
            intros
            rename_i wx hrel
            have HRD2 := hrel
            clear hrel HRD
            cases b
            · have hnc := of_decide_eq_false hb.symm
              have HEN := Lib.hid (show vs = vs1 ∧ svs = s by
                have h := HE.out
                rw [rdNums_stop hk hnc, List.append_nil] at h
                injection h with h1 h2
                exact ⟨h1, h2⟩)
              clear HE hnc hb
              obtain ⟨rfl, rfl⟩ := HEN.out
              clear HEN hk hvl
              go_wp2_with fail
              refine (HZ.out.text HL2.out HRD2.out Q14.out).mono ?_
              rintro e w15 ⟨rfl, hrd, -⟩
              have hbig2 := hrd.big
              have hconv := conv_bytes (P := Try.prog) (src := 9) (dst := 24) t Try.underlying9 Try.underlying24 Try.underlying5
              have hrd2 := hrd.ext_ HL2.out ((Ext.refl w15).bytes 5 ⟨t.toArray⟩)
              have hc12 : (Lib.bytesWorld w15 5 ⟨t.toArray⟩).cell? ⟨w.heap.size + 1, 12, none⟩ = some (.slice none 0 0) := cell_blk hrd2.msg 12
              have hf12 : (Lib.bytesWorld w15 5 ⟨t.toArray⟩).frozen? ⟨w.heap.size + 1, 12, none⟩ = false := frozen_blk hrd2.msg 12
              obtain ⟨Ae, ce, e1, _⟩ := id hrd.ent.rs
              obtain ⟨Av, cv, e2, _⟩ := id hrd.vot.rs
              subst e1
              subst e2
              have HRD5 := Lib.hid (show RdW w c2 X (w.heap.size + 1) w.heap.size (fun b => c1 ≤ b ∧ b < c2) (c2 ≤ ·) ((Lib.bytesWorld w15 5 ⟨t.toArray⟩).setCell ⟨w.heap.size + 1, 12, none⟩ (.slice (some ⟨w15.heap.size, 0, none⟩) t.length (grownCap w15 t.length 0 5))) (msgC ⟨a0, a1, a2, a3, a4, a5, a6, a7, y, d, [], [], []⟩ (.slice Ae es.length ce) (.slice Av vs.length cv) (.slice (some ⟨w15.heap.size, 0, none⟩) t.length (grownCap w15 t.length 0 5))) (.slice Ae es.length ce) es (.slice Av vs.length cv) vs st from hrd2.set HL2.out 12 _)
              have HD := Lib.hid ((Rs.bytes w15 5 t (by have := HTL.out; omega)).seti (g := w.heap.size + 1) (i := 12) (by omega) (.slice (some ⟨w15.heap.size, 0, none⟩) t.length (grownCap w15 t.length 0 5)))
              clear hrd hrd2 HRD2
              obtain ⟨b1, hb1⟩ : ∃ b1, ((st.end_.e : Int) == 0) = b1 := ⟨_, rfl⟩
              obtain ⟨b2, hb2⟩ : ∃ b2, ((es.length : Int) == (c : Int)) = b2 := ⟨_, rfl⟩
              obtain ⟨b3, hb3⟩ : ∃ b3, ((vs.length : Int) == (v : Int)) = b3 := ⟨_, rfl⟩
              have HOK := Lib.hid (show okP (⟨a0, a1, a2, a3, a4, a5, a6, a7, y, d, es, vs, t⟩, c, v, st) = (b1 && (b2 && b3)) by
                unfold okP
                rw [← hb1, ← hb2, ← hb3, ← Bool.and_assoc]
                congr 1
                · congr 1
                  · by_cases h : st.end_.e = 0
                    · rw [h]; rfl
                    · rw [decide_eq_false h]; exact (beq_eq_false_iff_ne.2 (by omega)).symm
                  · by_cases h : es.length = c
                    · simp only [h]; simp
                    · simp only [decide_eq_false h]; exact (beq_eq_false_iff_ne.2 (by omega)).symm
                · by_cases h : vs.length = v
                  · simp only [h]; simp
                  · simp only [decide_eq_false h]; exact (beq_eq_false_iff_ne.2 (by omega)).symm)
              have HB1 := Lib.hid hb1
              have HB2 := Lib.hid hb2
              have HB3 := Lib.hid hb3
              clear hb1 hb2 hb3
              go_upto_region 20 with fail
              refine rw20 w X _ (w.heap.size + 1) w.heap.size c2 p q c2 (fun b => c1 ≤ b ∧ b < c2) (c2 ≤ ·) HL2 HZ a0 a1 a2 a3 a4 a5 a6 a7 y d Ae Av _ ce cv _ es vs t c v st b1 b2 b3 (w15.heap.size ≤ ·) (fun b hb => ⟨fun h => by have h' : w15.heap.size ≤ b := hb; omega, by have h' : w15.heap.size ≤ b := hb; omega⟩) HD HB1.out HB2.out HB3.out HRD5 ?_
              intros
              rename_i wy hrel
              obtain ⟨k1, k3, k4, k6, k5⟩ := hrel.out
              have HK1 := Lib.hid k1
              have HMV := Lib.hid (show MsgV wy (w.heap.size ≤ ·) (.agg (msgC ⟨a0, a1, a2, a3, a4, a5, a6, a7, y, d, es, vs, t⟩ (.slice Ae es.length ce) (.slice Av vs.length cv) (.slice (some ⟨w15.heap.size, 0, none⟩) t.length (grownCap w15 t.length 0 5)))) ⟨a0, a1, a2, a3, a4, a5, a6, a7, y, d, es, vs, t⟩ from
                ⟨_, _, _, rfl, k3.rs.mono fun b hb => by omega, k4.rs.mono fun b hb => by have : c2 ≤ b := hb; omega, k6.mono fun b hb => by have : w15.heap.size ≤ b := hb; omega, by
                  have h := HAB.out
                  simp only [List.mem_cons, List.not_mem_nil, or_false, forall_eq_or_imp, forall_eq] at h
                  obtain ⟨h0, h1, h2, h3, h4, h5, h6, h7⟩ := h
                  refine ⟨⟨?_, ?_⟩, ⟨?_, ?_⟩, ⟨?_, ?_⟩, ⟨?_, ?_⟩, ⟨?_, ?_⟩, ⟨?_, ?_⟩, ⟨?_, ?_⟩, ⟨?_, ?_⟩⟩ <;> (simp only; omega)⟩)
              have HEX := Lib.hid k5
              clear k1 k3 k4 k6 k5 hrel HRD5 HD hc12 hf12 hconv
              go_wp2_with fail
              (try simp only [Exit.inBlock, Exit.then])
              refine bodyPost_ret (results_msg rfl _ _ _ _ _ _ _ _ _ rfl HK1.out) rfl ?_
              rw [HQ.out, HOK.out]
              exact ⟨_, rfl, HMV.out, HEX.out⟩
            · have hyes := of_decide_eq_true hb.symm
              obtain ⟨n, s1, q1⟩ := asPair s.number
              have HEN := Lib.hid (show (vs, svs) = ((vs1 ++ [(n : Int)]) ++ (rdNums true v (8 - (k + 1)) (k + 1) s1).1, (rdNums true v (8 - (k + 1)) (k + 1) s1).2) by
                rw [HE.out, rdNums_more hyes q1]
                simp only [List.append_assoc, List.singleton_append])
              have hnb : n < 9223372036854775808 := by have := (ScS.ok_number (HZ.out.ok HRD2.out)).2; rw [q1] at this; exact this
              have hk7 : k ≤ 7 := hyes.2.1
              clear HE hyes hb
              go_upto_region 18 with fail
              refine rw18 w X _ (w.heap.size + 1) w.heap.size c2 p q c2 (fun b => c1 ≤ b ∧ b < c2) (c2 ≤ ·) HL2 HZ a0 a1 a2 a3 a4 a5 a6 a7 y d ve vv es vs1 n (by omega) hnb s s1 q1 HRD2 ?_
              intros
              rename_i wz hrel
              have HRD3 := hrel
              clear hrel HRD2
              go_wp2_with fail
              go_roundw
              case rel => exact ⟨k + 1, _, _, _, by go_num, by omega, by rw [List.length_append, List.length_singleton, hvl], HRD3, HEN⟩
              case measure => simp [intOf]; omega
        · have hyes := of_decide_eq_true hb.symm
          obtain ⟨n, s1, q1⟩ := asPair s.number
          obtain ⟨t1, s2, q2⟩ := asPair (s1.text 4096)
          have HEN := Lib.hid (show (es, se) = ((es1 ++ [⟨entIx (a4 : Int) k, (n : Int), t1⟩]) ++ (rdEnts true (a4 : Int) c (9 - (k + 1)) (k + 1) s2).1, (rdEnts true (a4 : Int) c (9 - (k + 1)) (k + 1) s2).2) by
            rw [HE.out, rdEnts_more hyes q1 q2]
            simp only [List.append_assoc, List.singleton_append])
          have hnb : n < 9223372036854775808 := by have := (ScS.ok_number (HZ.out.ok HRD2.out)).2; rw [q1] at this; exact this
          have htl : t1.length ≤ 140737488355328 := by have := text_len s1 4096; rw [q2] at this; simp at this; omega
          have hk8 : k ≤ 8 := hyes.2.1
          clear HE hyes hb
          go_upto_region 13 with fail
          refine rw13 w X _ (w.heap.size + 1) w.heap.size c1 p q c1 (c1 ≤ ·) (fun _ => False) HL HZ a0 a1 a2 a3 a4 a5 a6 a7 y d ve es1 k n hk8 hel hnb t1 s s1 s2 q1 q2 htl HRD2 ?_
          intros
          rename_i wz hrel
          have HRD3 := hrel
          clear hrel HRD2
          go_wp2_with fail
          go_roundw
          case rel => exact ⟨k + 1, _, _, _, by go_num, by omega, by rw [List.length_append, List.length_singleton, hel], HRD3, HEN⟩
          case measure => simp [intOf]; omega
end Go.Proofs.Ytfflcnlgkbgbhaa
set_option linter.unusedVariables false
set_option linter.unusedSimpArgs false
namespace Go.Proofs.Ytfflcnlgkbgbhaa
open Go.RowKit

theorem Sc.from_ {w : World} {B : Nat → Prop} {p q : Nat} {s : ScS} (h : Sc w B p q s) : ∀ k, two p q k → B k := by
  obtain ⟨_, _, _, _, _, _, h6, h7⟩ := h
  rintro k (rfl | rfl)
  · exact h6
  · exact h7
/-- A scan that no call made. -/
def Nob (w : World) (v : Value) : Prop := Calls Try.prog 83 #[v] w fun e w' => e = .returned (.bool false) ∧ w = w'

set_option maxHeartbeats 400000 in
theorem NbNumber (w : World) (v : Value) (h : Nob w v) : Calls Try.prog 76 #[v] w fun e w' => e = .returned (.int .i64 0) ∧ w = w' := by
  have H := Lib.hid h
  clear h
  go_enter Try.func76, Try.ntmps76
  go_wp2_with (go_at_call 83; refine H.out.mono ?_; rintro e w' ⟨rfl, rfl⟩)
  go_ret
  exact ⟨rfl, rfl⟩
set_option maxHeartbeats 400000 in
theorem NbErr (w : World) (v : Value) (h : Nob w v) : Calls Try.prog 78 #[v] w fun e w' => e = .returned (.int .i64 6) ∧ w = w' := by
  have H := Lib.hid h
  clear h
  go_enter Try.func78, Try.ntmps78
  go_wp2_with (go_at_call 83; refine H.out.mono ?_; rintro e w' ⟨rfl, rfl⟩)
  go_ret
  exact ⟨rfl, rfl⟩
set_option maxHeartbeats 400000 in
theorem NbLeft (w : World) (v : Value) (h : Nob w v) : Calls Try.prog 86 #[v] w fun e w' => e = .returned (.int .i64 0) ∧ w = w' := by
  have H := Lib.hid h
  clear h
  go_enter Try.func86, Try.ntmps86
  go_wp2_with (go_at_call 83; refine H.out.mono ?_; rintro e w' ⟨rfl, rfl⟩)
  go_ret
  exact ⟨rfl, rfl⟩
set_option maxHeartbeats 400000 in
theorem NbFlag (w : World) (v : Value) (h : Nob w v) : Calls Try.prog 77 #[v] w fun e w' => e = .returned (.bool false) ∧ w = w' := by
  have H := Lib.hid h
  clear h
  go_enter Try.func77, Try.ntmps77
  go_wp2_with (first | (go_at_call 83; refine H.out.mono ?_; rintro e w' ⟨rfl, rfl⟩) | (go_at_call 76; refine (NbNumber _ _ H.out).mono ?_; rintro e w' ⟨rfl, rfl⟩) | (go_at_call 78; refine (NbErr _ _ H.out).mono ?_; rintro e w' ⟨rfl, rfl⟩))
  go_ret
  exact ⟨rfl, rfl⟩
set_option maxRecDepth 100000 in
set_option maxHeartbeats 400000 in
theorem NbText (w : World) (v : Value) (most : Int) (h : Nob w v) : Calls Try.prog 79 #[v, .int .i64 most] w fun e w' => e = .returned (.string ⟨#[]⟩) ∧ w = w' := by
  have H := Lib.hid h
  clear h
  go_enter Try.func79, Try.ntmps79
  go_wp2_with (first | (go_at_call 83; refine H.out.mono ?_; rintro e w' ⟨rfl, rfl⟩) | (go_at_call 76; refine (NbNumber _ _ H.out).mono ?_; rintro e w' ⟨rfl, rfl⟩) | (go_at_call 78; refine (NbErr _ _ H.out).mono ?_; rintro e w' ⟨rfl, rfl⟩))
  go_ret
  exact ⟨rfl, rfl⟩
set_option maxHeartbeats 400000 in
theorem NbEnd (w : World) (v : Value) (h : Nob w v) : Calls Try.prog 80 #[v] w fun e w' => e = .returned (.int .i64 6) ∧ w = w' := by
  have H := Lib.hid h
  clear h
  go_enter Try.func80, Try.ntmps80
  go_wp2_with (go_at_call 78; refine (NbErr _ _ H.out).mono ?_; rintro e w' ⟨rfl, rfl⟩)
  go_ret
  exact ⟨rfl, rfl⟩

end Go.Proofs.Ytfflcnlgkbgbhaa
set_option linter.unusedVariables false
set_option linter.unusedSimpArgs false
namespace Go.Proofs.Ytfflcnlgkbgbhaa
open Go.RowKit

set_option maxRecDepth 100000 in
set_option maxHeartbeats 1000000 in
theorem Pick_calls (w : World) (S : Nat → Prop) (v : Value) (b : List UInt8) (hr : Rs kByte w S v b) :
    Calls Try.prog 54 #[v] w fun e w' => ∃ u, e = .returned (.tuple #[u, .int .i64 ((pick b).2.1 : Int), .int .i64 ((pick b).2.2 : Int)]) ∧ Ow kByte 5 w' w.heap.size (w.heap.size ≤ ·) u (pick b).1 ∧ Ext w w' := by
  have HR := Lib.hid hr
  obtain ⟨A, c, rfl, hl, hc, hz, hrow⟩ := hr
  by_cases h0 : b.length = 0
  · have hx : pick b = ([], 0, 2) := by unfold pick; rw [if_pos h0]
    rw [hx]
    clear hx hrow
    have h0' : ((b.length : Int) == 0) = true := beq_iff_eq.2 (by omega)
    go_enter Try.func54, Try.ntmps54
    go_wp2_with fail
    go_ret3
    exact ⟨_, rfl, Ow.nil _ _ _ _ _, Ext.refl _⟩
  obtain ⟨ad, rfl, hcell⟩ := hrow.byte (j := 0) (by omega)
  rw [add_zero_addr] at hcell
  clear hrow
  have hlp : (0 : Int) < (b.length : Int) := by omega
  by_cases h93 : b[0]? ≠ some (byt 93)
  · have hx : pick b = ([], 0, 10) := by unfold pick; rw [if_neg h0, if_pos h93]
    rw [hx]
    have hne : ((b[0].toNat : Int) != 93) = true := by
      rw [bne_iff_ne]
      intro e
      apply h93
      rw [List.getElem?_eq_getElem (by omega)]
      congr 1
      apply UInt8.toNat.inj
      rw [byt_toNat]; omega
    clear hx h93
    go_enter Try.func54, Try.ntmps54
    go_wp2_with fail
    go_ret3
    exact ⟨_, rfl, Ow.nil _ _ _ _ _, Ext.refl _⟩
  have hb0 : (b[0].toNat : Int) = 93 := by
    rw [ne_eq, Classical.not_not, List.getElem?_eq_getElem (by omega)] at h93
    injection h93 with h93
    rw [h93, byt_toNat]; rfl
  rw [hb0] at hcell
  have hs : ScS.number ⟨b.drop 1, 0, 0⟩ = ((rd (b.drop 1)).1, ⟨b.drop 1, (rd (b.drop 1)).2.1, (rd (b.drop 1)).2.2⟩) := by simp [ScS.number]
  have hx : pick b = if (rd (b.drop 1)).2.2 ≠ 0 then ([], 0, (rd (b.drop 1)).2.2) else
      if 65536 < (rd (b.drop 1)).1 then ([], 0, 4) else
      if b.length < 1 + (rd (b.drop 1)).2.1 + (rd (b.drop 1)).1 + 4 then ([], 0, 2) else
      if (b.drop (1 + (rd (b.drop 1)).2.1 + (rd (b.drop 1)).1)).take 4 ≠ be4 (crc (b.take (1 + (rd (b.drop 1)).2.1 + (rd (b.drop 1)).1))) then ([], 0, 11) else
      ((b.drop (1 + (rd (b.drop 1)).2.1)).take (rd (b.drop 1)).1, 1 + (rd (b.drop 1)).2.1 + (rd (b.drop 1)).1 + 4, 0) := by
    unfold pick; rw [if_neg h0, if_neg h93]
  have hbd := rd_bd (b.drop 1)
  rw [List.length_drop] at hbd
  generalize rd (b.drop 1) = r at hs hbd hx
  obtain ⟨n, k, e⟩ := r
  simp only at hs hbd hx
  have HX := Lib.hid hx
  obtain ⟨hn, hk, hz0, he10⟩ := hbd
  have HS := Lib.hid hs
  have HZ := Lib.hid hz0
  have H0 := Lib.hid h0
  clear hs hx hz0 h0 h93 hb0
  have hrest := HR.out.from_ (l := 1) rfl (by omega)
  have hs1 := slice_from tBytes (some ad) b.length c .i64 1 1 rfl (by omega)
  rw [partV_eq] at hrest
  simp only [partV_eq] at hs1
  have HREST := Lib.hid hrest
  clear hrest
  go_enter Try.func54, Try.ntmps54
  go_wp2_with fail
  refine (Over_calls w S _ (b.drop 1) (HREST.out)).mono ?_
  rintro e1 w1 ⟨p, q, rfl, hsc, he⟩
  have HSC := Lib.hid hsc
  have HE := Lib.hid he
  clear hsc he
  go_wp2_with fail
  refine (ScNumber_calls w1 _ p q _ HSC.out).mono ?_
  rw [HS.out]
  rintro e2 w2 ⟨rfl, hsc, hup⟩
  have HE2 := Lib.hid (hup.ext HE.out HSC.out.from_)
  obtain ⟨c1, c2, c3, _, _, A', c', c6, c7⟩ := hsc.cells
  simp only at c1 c2 c3 c6
  clear hsc hup c7 c6 HSC
  by_cases h1 : e ≠ 0
  · have HX2 := Lib.hid (show pick b = ([], 0, e) by rw [HX.out, if_pos h1])
    have h1' : ((e : Int) != 0) = true := by rw [bne_iff_ne]; omega
    go_wp2_with fail
    go_quiet (fail)
    go_wp2
    go_ret3
    rw [HX2.out]
    exact ⟨_, rfl, Ow.nil _ _ _ _ _, HE2.out.drewN _⟩
  have h1' : e = 0 := Classical.not_not.1 h1
  subst h1'
  clear h1 HZ
  by_cases h2 : 65536 < n
  · have HX2 := Lib.hid (show pick b = ([], 0, 4) by rw [HX.out, if_neg (by simp), if_pos h2])
    have h2' : (65536 : Int) < (n : Int) := by omega
    go_wp2_with fail
    go_ret3
    rw [HX2.out]
    exact ⟨_, rfl, Ow.nil _ _ _ _ _, HE2.out⟩
  have h2' : (n : Int) ≤ 65536 := by omega
  by_cases h3 : b.length < 1 + k + n + 4
  · have HX2 := Lib.hid (show pick b = ([], 0, 2) by rw [HX.out, if_neg (by simp), if_neg h2, if_pos h3])
    have h3' : (b.length : Int) - (1 + (k : Int)) < (n : Int) + 4 := by omega
    go_wp2_with fail
    go_ret3
    rw [HX2.out]
    exact ⟨_, rfl, Ow.nil _ _ _ _ _, HE2.out⟩
  have h3' : (n : Int) + 4 ≤ (b.length : Int) - (1 + (k : Int)) := by omega
  go_wp2_with fail
  have HR2 := Lib.hid (HR.out.ext HE2.out)
  have hK : ∃ K, K = 1 + k + n := ⟨_, rfl⟩
  obtain ⟨K, hK⟩ := hK
  have hKi : 1 + (k : Int) + (n : Int) = (K : Int) := by omega
  rw [← hK] at h3
  have HX2 := Lib.hid HX.out
  rw [← hK] at HX2
  have hKb : K + 4 ≤ b.length := by omega
  have hwr1 : IntKind.i64.wrap (1 + (k : Int) + (n : Int)) = (K : Int) := by rw [hKi]; exact IntWalk.i64_in _ (by omega)
  have hwr2 : IntKind.i64.wrap ((K : Int) + 4) = (K : Int) + 4 := IntWalk.i64_in _ (by omega)
  have hsA := slice_of tBytes (some ad) b.length c .i64 .i64 (K : Int) ((K : Int) + 4) K (K + 4) rfl (by omega) (by omega) (by omega)
  have hsB := slice_to tBytes (some ad) b.length c .i64 (K : Int) K rfl (by omega)
  have hrA := HR2.out.part (l := K) (h := K + 4) rfl (by omega) hKb
  have hrB := HR2.out.to_ (h := K) rfl (by omega)
  simp only [partV_eq, Nat.add_sub_cancel_left, Nat.sub_zero] at hsA hsB hrA hrB
  have h4 : ((b.drop K).take 4).length = 4 := by rw [List.length_take, List.length_drop]; omega
  generalize hY : (b.drop K).take 4 = Y at hrA h4
  match Y, h4 with
  | [y0, y1, y2, y3], _ =>
  obtain ⟨ad4, hA4, _⟩ := hrA.shape.2.2.2.2.byte (j := 0) (by simp)
  rw [hA4] at hsA hrA
  have HLD := Lib.hid (fun W (he : Ext w2 W) => arr4_cells (hrA.ext he))
  have HRB := Lib.hid hrB
  have HY := Lib.hid hY
  have hC : crc [b.take K].flatten = crc (b.take K) := by simp
  have hXl := crc_lt (b.take K)
  generalize hX : crc (b.take K) = X at hC hXl
  have HXe := Lib.hid hX
  have HC := Lib.hid hC
  have HXl := Lib.hid hXl
  have hcmp := fun W => arr4_neq W y0 y1 y2 y3 (byt (X / 16777216)) (byt (X / 65536)) (byt (X / 256)) (byt X)
  have hat := arr4_at (some ad4) (c - K)
  clear hA4
  have H3 := Lib.hid h3
  have HKb := Lib.hid hKb
  have HK := Lib.hid hK
  clear hrB hY hC hX hXl hrA h3 hKb hKi hK h3' h2
  by_cases h5 : [y0, y1, y2, y3] = [byt (X / 16777216), byt (X / 65536), byt (X / 256), byt X]
  · rw [decide_eq_true h5] at hcmp
    have H5 := Lib.hid h5
    clear h5
    have hK1 : 1 + k ≤ K := by rw [HK.out]; omega
    have hrC := HR2.out.part (l := 1 + k) (h := K) rfl hK1 (by have := HKb.out; omega)
    have hnK : K - (1 + k) = n := by rw [HK.out]; omega
    simp only [partV_eq, hnK] at hrC
    have HRC := Lib.hid hrC
    have HPK := Lib.hid (show pick b = ((b.drop (1 + k)).take n, K + 4, 0) by rw [HX2.out, if_neg (by simp), if_neg (by omega), if_neg H3.out, if_neg]; rw [HY.out, HXe.out, H5.out]; simp [be4])
    have hlenC : ((b.drop (1 + k)).take n).length = n := by rw [List.length_take, List.length_drop]; have := HKb.out; omega
    have HLC := Lib.hid hlenC
    clear hK1 hrC hnK hlenC
    have hsC := slice_of tBytes (some ad) b.length c .i64 .i64 (1 + (k : Int)) (K : Int) (1 + k) K (by omega) rfl (by rw [HK.out]; omega) (by have := HKb.out; omega)
    have hnK : K - (1 + k) = n := by rw [HK.out]; omega
    simp only [partV_eq, hnK] at hsC
    clear hnK
    go_region_held3 (fun W => Ext w2 W ∧ W.cell? ad4 = some (encB y0) ∧ W.cell? ⟨ad4.block, ad4.off + 1, none⟩ = some (encB y1) ∧ W.cell? ⟨ad4.block, ad4.off + 2, none⟩ = some (encB y2) ∧ W.cell? ⟨ad4.block, ad4.off + 3, none⟩ = some (encB y3))
      (first | exact ⟨(Ext.refl _).drew, HLD.out _ (Ext.refl _).drew⟩ | exact ⟨(Ext.refl _).drew.alloc _, HLD.out _ ((Ext.refl _).drew.alloc _)⟩ | exact ⟨((Ext.refl _).drew.alloc _).trans (by assumption), HLD.out _ (((Ext.refl _).drew.alloc _).trans (by assumption))⟩)
      (first | (go_at_call 69; refine (Sum_calls _ (fun _ => True) _ [b.take K] (Rs.one_ (heap_alloc_new _ _) trivial ((HRB.out.drew.alloc _).mono fun _ _ => trivial))).mono ?_; rw [HC.out]; rintro e w' ⟨rfl, rfl⟩) | (go_at_call 68; refine (four_calls _ X HXl.out).mono ?_; rintro e w3 ⟨rfl, he3⟩; simp only [be4, List.map_cons, List.map_nil]))
    all_goals
      have hE3 := (‹Ext w2 w3 ∧ _ ∧ _ ∧ _ ∧ _›).1
      have HE3 := Lib.hid (HE2.out.trans hE3)
      have HRC3 := Lib.hid (HRC.out.ext hE3)
      clear hE3
      go_wp2_with fail
      refine (Join_calls _ (fun _ => True) _ [(b.drop (1 + k)).take n] (Rs.one_ (heap_alloc_new _ _) trivial ?_) (by simp [flen]; omega)).mono ?_
      · exact (HRC3.out.alloc _).mono fun _ _ => trivial
      rintro e w4 ⟨u, rfl, ho, he⟩
      have hf : [(b.drop (1 + k)).take n].flatten = (b.drop (1 + k)).take n := by simp
      rw [hf] at ho
      have HE4 := Lib.hid ((HE3.out.alloc _).trans he)
      have HO4 := Lib.hid ((ho.lower (base' := w.heap.size) (HE3.out.alloc _).le).mono (S' := (w.heap.size ≤ ·)) fun b hb => Nat.le_trans (HE3.out.alloc _).le hb)
      clear ho he hf
      go_wp2
      go_ret3
      rw [HPK.out]
      exact ⟨_, by first | rfl | (congr 4; omega) | (simp; omega), HO4.out, HE4.out⟩
  · rw [decide_eq_false h5] at hcmp
    have H5 := Lib.hid h5
    have HPK := Lib.hid (show pick b = ([], 0, 11) by rw [HX2.out, if_neg (by simp), if_neg (by omega), if_neg H3.out, if_pos]; rw [HY.out, HXe.out]; exact H5.out)
    clear h5
    go_region_held3 (fun W => Ext w2 W ∧ W.cell? ad4 = some (encB y0) ∧ W.cell? ⟨ad4.block, ad4.off + 1, none⟩ = some (encB y1) ∧ W.cell? ⟨ad4.block, ad4.off + 2, none⟩ = some (encB y2) ∧ W.cell? ⟨ad4.block, ad4.off + 3, none⟩ = some (encB y3))
      (first | exact ⟨(Ext.refl _).drew, HLD.out _ (Ext.refl _).drew⟩ | exact ⟨(Ext.refl _).drew.alloc _, HLD.out _ ((Ext.refl _).drew.alloc _)⟩ | exact ⟨((Ext.refl _).drew.alloc _).trans (by assumption), HLD.out _ (((Ext.refl _).drew.alloc _).trans (by assumption))⟩)
      (first | (go_at_call 69; refine (Sum_calls _ (fun _ => True) _ [b.take K] (Rs.one_ (heap_alloc_new _ _) trivial ((HRB.out.drew.alloc _).mono fun _ _ => trivial))).mono ?_; rw [HC.out]; rintro e w' ⟨rfl, rfl⟩) | (go_at_call 68; refine (four_calls _ X HXl.out).mono ?_; rintro e w3 ⟨rfl, he3⟩; simp only [be4, List.map_cons, List.map_nil]))
    all_goals
      have hE3 := (‹Ext w2 w3 ∧ _ ∧ _ ∧ _ ∧ _›).1
      have HE3 := Lib.hid (HE2.out.trans hE3)
      clear hE3
      go_wp2_with fail
      go_ret3
      rw [HPK.out]
      exact ⟨_, rfl, Ow.nil _ _ _ _ _, HE3.out⟩
end Go.Proofs.Ytfflcnlgkbgbhaa
set_option linter.unusedVariables false
set_option linter.unusedSimpArgs false
namespace Go.Proofs.Ytfflcnlgkbgbhaa
open Go.RowKit

/-- The cells of a message, one by one. -/
theorem msg_cells {W : World} {g : Nat} {m : MsgS} {a b c : Value} {t : TypeId} (h : W.heap[g]? = some (.cells (msgC m a b c) t (0, 0))) :
    (W.cell? ⟨g, 0, none⟩ = some (.int .i64 m.kind) ∧ W.cell? ⟨g, 1, none⟩ = some (.int .i64 m.from_) ∧ W.cell? ⟨g, 2, none⟩ = some (.int .i64 m.to_) ∧ W.cell? ⟨g, 3, none⟩ = some (.int .i64 m.term) ∧
    W.cell? ⟨g, 4, none⟩ = some (.int .i64 m.index) ∧ W.cell? ⟨g, 5, none⟩ = some (.int .i64 m.logTerm) ∧ W.cell? ⟨g, 6, none⟩ = some (.int .i64 m.commit) ∧ W.cell? ⟨g, 7, none⟩ = some (.int .i64 m.round) ∧
    W.cell? ⟨g, 8, none⟩ = some (.bool m.yes) ∧ W.cell? ⟨g, 9, none⟩ = some (.bool m.done) ∧ W.cell? ⟨g, 10, none⟩ = some a ∧ W.cell? ⟨g, 11, none⟩ = some b ∧ W.cell? ⟨g, 12, none⟩ = some c) ∧
    (W.frozen? ⟨g, 0, none⟩ = false ∧ W.frozen? ⟨g, 1, none⟩ = false ∧ W.frozen? ⟨g, 2, none⟩ = false ∧ W.frozen? ⟨g, 3, none⟩ = false ∧ W.frozen? ⟨g, 4, none⟩ = false ∧ W.frozen? ⟨g, 5, none⟩ = false ∧ W.frozen? ⟨g, 6, none⟩ = false ∧
    W.frozen? ⟨g, 7, none⟩ = false ∧ W.frozen? ⟨g, 8, none⟩ = false ∧ W.frozen? ⟨g, 9, none⟩ = false ∧ W.frozen? ⟨g, 10, none⟩ = false ∧ W.frozen? ⟨g, 11, none⟩ = false ∧ W.frozen? ⟨g, 12, none⟩ = false) :=
  ⟨⟨cell_blk h 0, cell_blk h 1, cell_blk h 2, cell_blk h 3, cell_blk h 4, cell_blk h 5, cell_blk h 6, cell_blk h 7, cell_blk h 8, cell_blk h 9, cell_blk h 10, cell_blk h 11, cell_blk h 12⟩,
   ⟨frozen_blk h 0, frozen_blk h 1, frozen_blk h 2, frozen_blk h 3, frozen_blk h 4, frozen_blk h 5, frozen_blk h 6, frozen_blk h 7, frozen_blk h 8, frozen_blk h 9, frozen_blk h 10, frozen_blk h 11, frozen_blk h 12⟩⟩
theorem zero_V (w : World) (S : Nat → Prop) : MsgV w S (.agg (msgC zeroM (.slice none 0 0) (.slice none 0 0) (.slice none 0 0))) zeroM :=
  ⟨_, _, _, rfl, Rs.nil _ _ _, Rs.nil _ _ _, Rs.nil _ _ _, by refine ⟨⟨?_, ?_⟩, ⟨?_, ?_⟩, ⟨?_, ?_⟩, ⟨?_, ?_⟩, ⟨?_, ?_⟩, ⟨?_, ?_⟩, ⟨?_, ?_⟩, ⟨?_, ?_⟩⟩ <;> decide⟩

set_option maxRecDepth 1000000 in
set_option maxHeartbeats 8000000 in
theorem Get_calls (w : World) (S : Nat → Prop) (v : Value) (b : List UInt8) (hr : Rs kByte w S v b) :
    Calls Try.prog 18 #[v] w fun e w' => ∃ mv, e = .returned (.tuple #[mv, .int .i64 ((getM b).2 : Int)]) ∧ MsgV w' (w.heap.size ≤ ·) mv (getM b).1 ∧ Ext w w' := by
  have HR := Lib.hid hr
  obtain ⟨A, c, rfl, hl, hc, hz, hrow⟩ := hr
  clear hrow
  go_enter Try.func18, Try.ntmps18
  go_wp2_with fail
  obtain ⟨w1, hw1⟩ : ∃ w1, w1 = w.alloc (.cells (msgC zeroM (.slice none 0 0) (.slice none 0 0) (.slice none 0 0)) 26) := ⟨_, rfl⟩
  have HB1 := Lib.hid (show w1.heap[w.heap.size]? = some (.cells (msgC zeroM (.slice none 0 0) (.slice none 0 0) (.slice none 0 0)) 26 (0, 0)) by rw [hw1]; exact heap_new w _ rfl _)
  have HX1 := Lib.hid (show Ext w w1 by rw [hw1]; exact (Ext.refl w).alloc _)
  unfold msgC zeroM at hw1
  rw [← hw1]
  clear hw1
  refine (Pick_calls _ _ _ b (HR.out.ext HX1.out)).mono ?_
  rintro e w2 ⟨u, rfl, ho, hx⟩
  have HO := Lib.hid (ho.rs)
  have HB2 := Lib.hid (blk_ext HB1.out hx)
  have HX2 := Lib.hid (HX1.out.trans hx)
  have HSZ := Lib.hid hx
  obtain ⟨Ap, cp, e1, _⟩ := id ho.rs
  subst e1
  have hpn := pick_bad' b
  have hpl := pick_ok b
  clear ho hx HB1 HR
  obtain ⟨⟨x0, x1, x2, x3, x4, x5, x6, x7, x8, x9, x10, x11, x12⟩, ⟨y0, y1, y2, y3, y4, y5, y6, y7, y8, y9, y10, y11, y12⟩⟩ := msg_cells HB2.out
  simp only [zeroM] at x0 x1 x2 x3 x4 x5 x6 x7 x8 x9
  have HSM := Lib.hid (setM_heap w2 w.heap.size zeroM (.slice none 0 0) (.slice none 0 0) (.slice none 0 0) HB2.out)
  have HXM := Lib.hid ((setM_upd w2 w.heap.size zeroM (.slice none 0 0) (.slice none 0 0) (.slice none 0 0)).ext HX2.out (fun k hk => by have : k = w.heap.size := hk; omega))
  by_cases h0 : (pick b).2.2 ≠ 0
  · have HG := Lib.hid (show getM b = (zeroM, (pick b).2.2) by unfold getM; rw [if_pos h0])
    have hne : (((pick b).2.2 : Int) != 0) = true := bne_iff_ne.2 (by omega)
    clear h0 hpl
    go_wp2_with fail
    (try simp only [Exit.inBlock, Exit.then])
    refine bodyPost_ret (results_msg rfl _ _ _ _ _ _ _ _ _ rfl HSM.out) rfl ?_
    rw [HG.out]
    exact ⟨_, rfl, zero_V _ _, HXM.out⟩
  · have h00 : (pick b).2.2 = 0 := by omega
    have hne : (((pick b).2.2 : Int) != 0) = false := by rw [h00]; rfl
    obtain ⟨-, hle, -⟩ := hpl h00
    by_cases h1 : (pick b).2.1 ≠ b.length
    · have HG := Lib.hid (show getM b = (zeroM, 3) by unfold getM; rw [if_neg h0, if_pos h1])
      have hne2 : (((pick b).2.1 : Int) != (b.length : Int)) = true := bne_iff_ne.2 (by omega)
      clear h0 h1 h00
      go_wp2_with fail
      (try simp only [Exit.inBlock, Exit.then])
      refine bodyPost_ret (results_msg rfl _ _ _ _ _ _ _ _ _ rfl HSM.out) rfl ?_
      rw [HG.out]
      exact ⟨_, rfl, zero_V _ _, HXM.out⟩
    · have hne2 : (((pick b).2.1 : Int) != (b.length : Int)) = false := by simp; omega
      have HG0 := Lib.hid (show getM b = if (okP (readP (pick b).1) && chkM (readP (pick b).1).1) = true then ((readP (pick b).1).1, 0) else (zeroM, 122) by unfold getM; rw [if_neg h0, if_neg h1])
      clear h0 h1 h00 HSM HXM x0 x1 x2 x3 x4 x5 x6 x7 x8 x9 x10 x11 x12 y0 y1 y2 y3 y4 y5 y6 y7 y8 y9 y10 y11 y12
      go_wp2_with fail
      refine (read_calls _ _ _ _ HO.out).mono ?_
      rintro e w3 ⟨mv, rfl, hm, hx⟩
      have HB3 := Lib.hid (blk_ext HB2.out hx)
      have HX3 := Lib.hid (HX2.out.trans hx)
      have hs1 : w.heap.size + 1 ≤ w2.heap.size := Nat.succ_le_of_lt (blk_lt HB2.out)
      have HM := Lib.hid (hm.mono (S' := (w.heap.size + 1 ≤ ·)) fun k hk => Nat.le_trans hs1 hk)
      clear hs1
      obtain ⟨Ae, ce, Av, cv, Ad, cd, rfl, -⟩ := hm.form
      clear hm hx HB2 HX2 HO HSZ
      generalize okP (readP (pick b).1) = ok at HG0 ⊢
      generalize (readP (pick b).1).1 = m at HG0 HM ⊢
      dsimp only [msgC]
      go_upto_region 7 with fail
      obtain ⟨w4, hw4⟩ : ∃ w4, w4 = w3.alloc (.cells (msgC m (.slice Ae m.entries.length ce) (.slice Av m.voters.length cv) (.slice Ad m.data.length cd)) 26) := ⟨_, rfl⟩
      have HB4 := Lib.hid (show w4.heap[w.heap.size]? = some (.cells (msgC zeroM (.slice none 0 0) (.slice none 0 0) (.slice none 0 0)) 26 (0, 0)) by rw [hw4]; exact blk_ext HB3.out ((Ext.refl w3).alloc _))
      have HC4 := Lib.hid (show w4.heap[w3.heap.size]? = some (.cells (msgC m (.slice Ae m.entries.length ce) (.slice Av m.voters.length cv) (.slice Ad m.data.length cd)) 26 (0, 0)) by rw [hw4]; exact heap_new w3 _ rfl _)
      have HX4 := Lib.hid (show Ext w w4 by rw [hw4]; exact HX3.out.alloc _)
      have HM4 := Lib.hid (show MsgV w4 (w.heap.size + 1 ≤ ·) (.agg (msgC m (.slice Ae m.entries.length ce) (.slice Av m.voters.length cv) (.slice Ad m.data.length cd))) m by rw [hw4]; exact HM.out.ext ((Ext.refl w3).alloc _))
      unfold msgC at hw4
      rw [← hw4]
      clear hw4 HB3 HX3 HM
      cases ok
      · have HG := Lib.hid (show getM b = (zeroM, 122) by rw [HG0.out]; rfl)
        clear HG0
        obtain ⟨⟨x0, x1, x2, x3, x4, x5, x6, x7, x8, x9, x10, x11, x12⟩, ⟨y0, y1, y2, y3, y4, y5, y6, y7, y8, y9, y10, y11, y12⟩⟩ := msg_cells HB4.out
        simp only [zeroM] at x0 x1 x2 x3 x4 x5 x6 x7 x8 x9
        have HSM := Lib.hid (setM_heap w4 w.heap.size zeroM (.slice none 0 0) (.slice none 0 0) (.slice none 0 0) HB4.out)
        have HXM := Lib.hid ((setM_upd w4 w.heap.size zeroM (.slice none 0 0) (.slice none 0 0) (.slice none 0 0)).ext HX4.out (fun k hk => by have : k = w.heap.size := hk; omega))
        go_wp2_with fail
        (try simp only [Exit.inBlock, Exit.then])
        refine bodyPost_ret (results_msg rfl _ _ _ _ _ _ _ _ _ rfl HSM.out) rfl ?_
        rw [HG.out]
        exact ⟨_, rfl, zero_V _ _, HXM.out⟩
      · obtain ⟨⟨x0, x1, x2, x3, x4, x5, x6, x7, x8, x9, x10, x11, x12⟩, -⟩ := msg_cells HC4.out
        go_wp2_with fail
        refine (MCheck_calls _ _ _ m HM4.out).mono ?_
        rintro e w5 ⟨rfl, hx⟩
        have HB5 := Lib.hid (blk_ext HB4.out hx)
        have HC5 := Lib.hid (blk_ext HC4.out hx)
        have HX5 := Lib.hid (HX4.out.trans hx)
        have HM5 := Lib.hid (HM4.out.ext hx)
        clear x0 x1 x2 x3 x4 x5 x6 x7 x8 x9 x10 x11 x12 hx HB4 HC4 HX4 HM4
        obtain ⟨⟨x0, x1, x2, x3, x4, x5, x6, x7, x8, x9, x10, x11, x12⟩, ⟨y0, y1, y2, y3, y4, y5, y6, y7, y8, y9, y10, y11, y12⟩⟩ := msg_cells HB5.out
        simp only [zeroM] at x0 x1 x2 x3 x4 x5 x6 x7 x8 x9
        cases hck : chkM m
        · have HF := Lib.hid (chkME_no hck)
          have HG := Lib.hid (show getM b = (zeroM, 122) by rw [HG0.out, hck]; rfl)
          have HSM := Lib.hid (setM_heap w5 w.heap.size zeroM (.slice none 0 0) (.slice none 0 0) (.slice none 0 0) HB5.out)
          have HXM := Lib.hid ((setM_upd w5 w.heap.size zeroM (.slice none 0 0) (.slice none 0 0) (.slice none 0 0)).ext HX5.out (fun k hk => by have : k = w.heap.size := hk; omega))
          clear hck HG0
          rw [HF.out]
          go_wp2_with fail
          (try simp only [Exit.inBlock, Exit.then])
          refine bodyPost_ret (results_msg rfl _ _ _ _ _ _ _ _ _ rfl HSM.out) rfl ?_
          rw [HG.out]
          exact ⟨_, rfl, zero_V _ _, HXM.out⟩
        · have HF := Lib.hid (chkME_yes hck)
          have HG := Lib.hid (show getM b = (m, 0) by rw [HG0.out, hck]; rfl)
          have HSM := Lib.hid (setM_heap w5 w.heap.size m (.slice Ae m.entries.length ce) (.slice Av m.voters.length cv) (.slice Ad m.data.length cd) HB5.out)
          have HXM := Lib.hid ((setM_upd w5 w.heap.size m (.slice Ae m.entries.length ce) (.slice Av m.voters.length cv) (.slice Ad m.data.length cd)).ext HX5.out (fun k hk => by have : k = w.heap.size := hk; omega))
          clear hck HG0
          rw [HF.out]
          obtain ⟨⟨z0, z1, z2, z3, z4, z5, z6, z7, z8, z9, z10, z11, z12⟩, -⟩ := msg_cells HC5.out
          go_wp2_with fail
          (try simp only [Exit.inBlock, Exit.then])
          refine bodyPost_ret (results_msg rfl _ _ _ _ _ _ _ _ _ rfl HSM.out) rfl ?_
          rw [HG.out]
          refine ⟨_, rfl, (HM5.out.keep fun k hk hl => ?_).mono fun k hk => Nat.le_of_succ_le hk, HXM.out⟩
          exact (setM_upd w5 w.heap.size m (.slice Ae m.entries.length ce) (.slice Av m.voters.length cv) (.slice Ad m.data.length cd)).block k hl (fun e => by have e' : k = w.heap.size := e; have h' : w.heap.size + 1 ≤ k := hk; omega)
end Go.Proofs.Ytfflcnlgkbgbhaa
