/-
  Texts of this claim, put together: SesLast, SessionTurns.
-/
import Derived.Test.YtkedmpppfejofaaZ5
import Derived.Maps.Views
import Derived.Deep.DeepCutAuto
set_option linter.unusedVariables false
set_option linter.unusedSimpArgs false
namespace Go.Proofs.Ytkedmpppfejofaa
open Go.RowKit

def LastM (w : World) (m n : Nat) (f : Int → Int) : Prop :=
  ∃ D : DataW Unit, w.ownsMap Try.prog 3 (plainElem Try.prog 3) m n D ∧ ∀ x, I64 x → D.atKey (.int .i64 x) (.lit (.int .i64 0)) = .lit (.int .i64 (f x))
theorem zeroInt (w : World) : (zeroValue 3).run Try.prog w = .ok (.int .i64 0) w := by kernel_rfl
section
variable {w w' : World} {m n : Nat} {f : Int → Int}
theorem LastM.keep (h : LastM w m n f) (hk : w'.heap[m]? = w.heap[m]?) : LastM w' m n f := by
  obtain ⟨D, ⟨es, clock, hb, F, hs, hD⟩, h2⟩ := h
  exact ⟨D, ⟨es, clock, hk.trans hb, F, hs, hD⟩, h2⟩
theorem LastM.lt (h : LastM w m n f) : m < w.heap.size := by
  obtain ⟨D, h, _⟩ := h
  exact h.lt
theorem LastM.ext (h : LastM w m n f) (he : Ext w w') : LastM w' m n f := h.keep (he.block m h.lt)
theorem LastM.upd {S : Nat → Prop} (h : LastM w m n f) (hu : Upd S w w') (hS : ¬ S m) : LastM w' m n f := h.keep (hu.block m h.lt hS)
theorem LastM.made (w : World) : LastM (w.alloc (.map #[] 0)) w.heap.size 0 (fun _ => 0) := ⟨_, World.ownsMap_made w _ _ _, fun _ _ => rfl⟩
theorem LastM.mono {n' : Nat} (h : LastM w m n f) (hn : n ≤ n') : LastM w m n' f := by
  obtain ⟨D, h1, h2⟩ := h
  exact ⟨D, h1.mono hn, h2⟩
theorem LastM.look (h : LastM w m n f) {x : Int} (hx : I64 x) : (Instr.lookup 42 (.map (some m)) (.int .i64 x) false).run Try.prog w = .ok (.int .i64 (f x)) w := by
  obtain ⟨D, h1, h2⟩ := h
  obtain ⟨c, h3, h4, _⟩ := h1.lookup_int keyedI Try.underlying42 Try.underlying3 (zeroInt w) (keyI hx)
  rw [h2 x hx] at h4
  simp only [DataW.lit.injEq, Lit.int.injEq, true_and] at h4
  rw [h3, h4]
theorem LastM.put (h : LastM w m n f) {x v : Int} (hx : I64 x) (hv : I64 v) (hl : n ≤ 1000) : ∃ w', (Instr.mapUpdate 42 (.map (some m)) (.int .i64 x) (.int .i64 v)).run Try.prog w = .ok () w' ∧ LastM w' m (n + 1) (fun y => if y = x then v else f y) ∧ Upd (fun k => k = m) w w' := by
  obtain ⟨D, h1, h2⟩ := h
  obtain ⟨w', h3, h4, h5⟩ := World.ownsMap.update h1 keyedI Try.underlying42 (by unfold maxLen; omega) (keyI hx) (plainElem_int Try.underlying3 (wf_i64 hv))
  refine ⟨w', h3, ⟨_, h4, fun y hy => ?_⟩, ⟨h5.os, h5.tape, h5.output, h5.size, fun k hk hn => h5.block k hk (fun e => hn (Option.some.inj e))⟩⟩
  have hM : Maps.IsMap D := by
    obtain ⟨es, clock, _, _, _, hD⟩ := h1
    exact ⟨_, hD⟩
  dsimp only
  by_cases he : y = x
  · subst he
    rw [if_pos rfl, Maps.atKey_put_same hM (by trivial)]
  · rw [if_neg he, Maps.atKey_put_other (by simpa using he), h2 y hy]
end
end Go.Proofs.Ytkedmpppfejofaa
set_option linter.unusedVariables false
set_option linter.unusedSimpArgs false
namespace Go.Proofs.Ytkedmpppfejofaa
open Go.RowKit

/-- What the law knows between two calls: the table, and of each session the number kept last. -/
structure TurnW (w0 w : World) (p b m n : Nat) (L : List SeatS) (f : Int → Int) : Prop where
  tab : TabS w p b L
  ok : TabOk L
  last : LastM w m n f
  same : ∀ s ∈ L, f s.session = s.seq
  pos : w0.heap.size ≤ p ∧ w0.heap.size ≤ b ∧ w0.heap.size ≤ m ∧ b ≠ m ∧ p ≠ m
  ext : Ext w0 w
section
variable {w0 w w' : World} {p b m n : Nat} {L L' : List SeatS} {f f' : Int → Int}
theorem TurnW.ext_ (h : TurnW w0 w p b m n L f) (he : Ext w w') : TurnW w0 w' p b m n L f := ⟨h.tab.ext he, h.ok, h.last.ext he, h.same, h.pos, h.ext.trans he⟩
theorem TurnW.call (h : TurnW w0 w p b m n L f) (ht : TabS w' p b L') (hok : TabOk L') (hu : Upd (fun k => k = b) w w') (hs : ∀ s ∈ L', f s.session = s.seq) : TurnW w0 w' p b m n L' f :=
  ⟨ht, hok, h.last.upd hu (fun e => h.pos.2.2.2.1 e.symm), hs, h.pos, hu.ext h.ext (fun k hk => by rw [hk]; exact h.pos.2.1)⟩
theorem TabS.other {S : Nat → Prop} (h : TabS w p b L) (hu : Upd S w w') (hp : ¬ S p) (hb : ¬ S b) : TabS w' p b L := ⟨blk_upd h.1 hu hp, h.2.1.keep (hu.block b h.2.1.lt hb), h.2.2⟩
theorem TurnW.put (h : TurnW w0 w p b m n L f) (hl : LastM w' m (n + 1) f') (hu : Upd (fun k => k = m) w w') (hs : ∀ s ∈ L, f' s.session = s.seq) : TurnW w0 w' p b m (n + 1) L f' :=
  ⟨h.tab.other hu (fun e => h.pos.2.2.2.2 e) (fun e => h.pos.2.2.2.1 e), h.ok, hl, hs, h.pos, hu.ext h.ext (fun k hk => by rw [hk]; exact h.pos.2.2.1)⟩
theorem TurnW.more (h : TurnW w0 w p b m n L f) : TurnW w0 w p b m (n + 1) L f := ⟨h.tab, h.ok, h.last.mono (Nat.le_succ n), h.same, h.pos, h.ext⟩
end
/-- Behind an opening: the new session has number 0. -/
theorem same_open {L : List SeatS} (hr : Rise L) {f : Int → Int} (h : ∀ s ∈ L, f s.session = s.seq) {a : Int} (he : (openS L a).2 = 0) : ∀ s ∈ (openS L a).1, (fun y => if y = a then 0 else f y) s.session = s.seq := by
  unfold openS at he ⊢
  split
  · rename_i h1; rw [if_pos h1] at he; simp at he
  · rename_i h1
    rw [if_neg h1] at he
    split
    · rename_i h2; rw [if_pos h2] at he; simp at he
    · intro s hs
      rcases mem_putS.1 hs with rfl | ⟨h3, h4⟩
      · simp
      · dsimp only at h4 ⊢
        rw [if_neg h4]
        exact h s h3
theorem open_same {L : List SeatS} {a : Int} (he : (openS L a).2 ≠ 0) : (openS L a).1 = L := by
  unfold openS at he ⊢
  split
  · rfl
  · rename_i h1
    rw [if_neg h1] at he
    split
    · rfl
    · rename_i h2; rw [if_neg h2] at he; exact absurd rfl he
theorem same_keep {L : List SeatS} (hr : Rise L) {f : Int → Int} (h : ∀ s ∈ L, f s.session = s.seq) {n q a : Int} {r : ReplyS} (he : (keepS L n q a r).2 = 0) : q = f n + 1 ∧ 0 ≤ f n ∧ ∀ s ∈ (keepS L n q a r).1, (fun y => if y = n then q else f y) s.session = s.seq := by
  obtain ⟨s, hf, h1, h2, h3, h4, h5, e⟩ := keepS_iff he
  have hs := h s (List.mem_of_find?_eq_some hf)
  rw [findS_session hf] at hs
  refine ⟨by omega, by omega, fun t ht => ?_⟩
  rw [e] at ht
  rcases mem_putS.1 ht with rfl | ⟨h6, h7⟩
  · simp
  · dsimp only at h7 ⊢
    rw [if_neg h7]
    exact h t h6
set_option maxRecDepth 100000 in
set_option maxHeartbeats 8000000 in
theorem SessionTurns_walk (w : World) (S0 : Nat → Prop) (v0 : Value) (l : List SDoS) (h0 : Rs kSDo w S0 v0 l) :
    Calls Try.prog 5 #[v0] w fun e w' => e = .returned (.bool true) ∧ Ext w w' := by
  obtain ⟨A0, c0, rfl, -, -, -, h0r⟩ := h0
  have HR := Lib.hid h0r
  clear h0r
  have hmm := @run_makeMap Try.prog
  have awk : ∀ W : World, Ext w W → Calls Try.prog 13 #[] W fun e w' => e = .returned (.bool true) ∧ Hid (Ext w w') := fun W hW => (awake_calls W).mono fun _ _ h => ⟨h.1, Lib.hid (hW.trans h.2)⟩
  go_enter Try.func5, Try.ntmps5
  by_cases ha : 200 < l.length
  · go_wp2_with fail
    refine (awk _ (Ext.refl _)).mono ?_
    rintro e w' ⟨rfl, HE⟩
    go_wp2_with fail
    go_ret
    exact ⟨rfl, HE.out⟩
  go_wp2_with fail
  refine (SNew_calls w).mono ?_
  rintro e w1 ⟨p, b, hp, hb, rfl, ht, hx⟩
  have HTW := Lib.hid (show TurnW w (w1.alloc (.map #[] 0)) p b w1.heap.size 0 [] (fun _ => 0) from
    ⟨ht.ext ((Ext.refl _).alloc _), TabOk.nil, LastM.made w1, (fun s hs => by simp at hs), ⟨hp, hb, hx.le, Nat.ne_of_lt ht.2.1.lt, Nat.ne_of_lt (blk_lt ht.1)⟩, hx.alloc _⟩)
  clear hp hb ht hx
  obtain ⟨m, hm⟩ : ∃ m, m = w1.heap.size := ⟨_, rfl⟩
  rw [← hm] at HTW
  go_upto_region 5 with fail
  rw [← hm]
  clear hm
  go_wp2_with fail
  go_loopw [18] (fun i wr => ∃ j : Nat, j ≤ l.length ∧ i = .int .i64 j ∧ ∃ L f, Hid (TurnW w wr p b m j L f)) (fun i _ => l.length - (intOf i).toNat)
  case atStart => exact ⟨0, Nat.zero_le _, rfl, _, _, HTW⟩
  case round =>
    clear HTW
    obtain ⟨j, hj, rfl, L, f, HT⟩ := hrel
    by_cases hlt : j < l.length
    · obtain ⟨ad, rfl, -, -, hi, hx⟩ := (HR.out.keep (w' := wr) fun b _ hl => HT.out.ext.block b hl).sdo hlt
      have HI := Lib.hid hi
      obtain ⟨x0, x1, x2, x3, x4, x5, x6, x7, x8, x9, x10, x11⟩ := sdo_at hx
      generalize l[j] = d at *
      clear hx hi
      go_upto_region 8 with fail
      obtain ⟨w2, hw2⟩ : ∃ w2, w2 = wr.alloc (.cells (sdoC d) 32) := ⟨_, rfl⟩
      obtain ⟨g, hg⟩ : ∃ g, g = wr.heap.size := ⟨_, rfl⟩
      have hx2 : Ext wr w2 := by rw [hw2]; exact (Ext.refl _).alloc _
      have HT2 := Lib.hid (HT.out.ext_ hx2)
      have HD2 := Lib.hid (show w2.heap[g]? = some (.cells (sdoC d) 32 (0, 0)) by rw [hw2]; exact heap_new wr g hg.symm _)
      have HGB := Lib.hid (show ¬ g = b ∧ ¬ g = m from ⟨by have := HT.out.tab.2.1.lt; omega, by have := HT.out.last.lt; omega⟩)
      unfold sdoC at hw2
      rw [← hw2, ← hg]
      clear hw2 hg hx2 x0 x1 x2 x3 x4 x5 x6 x7 x8 x9 x10 x11 HT
      obtain ⟨x0, x1, x2, x3, x4, x5, x6, x7, x8, x9, x10, x11⟩ := sdo_cells HD2.out
      have ho6 : wrap64 ((IntKind.u64.wrap d.op).tmod 6) = op6 d.op := rfl
      go_upto_block 2 with fail
      rw [ho6]
      clear ho6
      go_cut [] (fun wx => ∃ L' f', Hid (TurnW w wx p b m (j + 1) L' f'))
      case first =>
        by_cases h0 : op6 d.op = 0
        · have hn0 : (op6 d.op == 0) = true := beq_iff_eq.2 h0
          clear h0
          go_wp2_with fail
          refine (Open_calls w2 p b L d.at_ HI.out.2.2.2.1 HT2.out.ok.len1 HT2.out.tab).mono ?_
          by_cases he : (openS L d.at_).2 = 0
          · have HS := Lib.hid (same_open HT2.out.ok.rise HT2.out.same he)
            have HOK := Lib.hid (HT2.out.ok.open_ d.at_)
            rw [he]
            rintro e w3 ⟨rfl, ht, hu⟩
            have HD3 := Lib.hid (blk_upd HD2.out hu HGB.out.1)
            have HT3 := Lib.hid ht
            have HU3 := Lib.hid hu
            have hl3 : LastM w3 m j f := HT2.out.last.upd hu (fun e => HT2.out.pos.2.2.2.1 e.symm)
            obtain ⟨w4, hup, hl4, hu4⟩ := hl3.put (v := 0) HI.out.2.2.2.1 ⟨by omega, by omega⟩ (by omega)
            have HT4 := Lib.hid (show TurnW w w4 p b m (j + 1) (openS L d.at_).1 (fun y => if y = d.at_ then 0 else f y) from
              ⟨HT3.out.other hu4 (fun e => HT2.out.pos.2.2.2.2 e) (fun e => HT2.out.pos.2.2.2.1 e), HOK.out, hl4, HS.out, HT2.out.pos,
                hu4.ext (HU3.out.ext HT2.out.ext (fun k hk => by rw [hk]; exact HT2.out.pos.2.1)) (fun k hk => by rw [hk]; exact HT2.out.pos.2.2.1)⟩)
            clear ht hu x0 x1 x2 x3 x4 x5 x6 x7 x8 x9 x10 x11 hl3 hl4 hu4 he
            have x3 : w3.cell? ⟨g, 3, none⟩ = some (.int .i64 d.at_) := cell_blk HD3.out 3
            go_wp2_with fail
            go_meet
            exact ⟨_, _, HT4⟩
          · have HS := Lib.hid (open_same he)
            have hne : ((openS L d.at_).2 == 0) = false := beq_eq_false_iff_ne.2 he
            rw [HS.out]
            rintro e w3 ⟨rfl, ht, hu⟩
            have HT3 := Lib.hid ((HT2.out.call ht HT2.out.ok hu HT2.out.same).more)
            clear ht hu he
            go_wp2_with fail
            go_meet
            exact ⟨_, _, HT3⟩
        · have hn0 : (op6 d.op == 0) = false := beq_eq_false_iff_ne.2 h0
          clear h0
          by_cases h4 : op6 d.op = 4
          · have hn4 : (op6 d.op == 4) = true := beq_iff_eq.2 h4
            clear h4
            go_wp2_with fail
            refine (Expire_calls w2 p b L d.at_ HT2.out.ok.rise HT2.out.ok.len1 HT2.out.tab).mono ?_
            rintro e w3 ⟨rfl, ht, hu⟩
            have HT3 := Lib.hid ((HT2.out.call ht (HT2.out.ok.stay _) hu (fun s hs => HT2.out.same s (List.mem_filter.1 hs).1)).more)
            clear ht hu
            go_wp2_with fail
            go_meet
            exact ⟨_, _, HT3⟩
          · have hn4 : (op6 d.op == 4) = false := beq_eq_false_iff_ne.2 h4
            clear h4
            go_wp2_with fail
            refine (Keep_calls w2 p b L d.session d.seq d.at_ d.r HI.out.2.1 HI.out.2.2.1 HT2.out.ok.len1 HT2.out.tab).mono ?_
            by_cases he : (keepS L d.session d.seq d.at_ d.r).2 = 0
            · obtain ⟨hq1, hq2, hs⟩ := same_keep HT2.out.ok.rise HT2.out.same he
              have HS := Lib.hid hs
              have HOK := Lib.hid (HT2.out.ok.keep d.session d.seq d.at_ d.r)
              rw [he]
              clear he hs
              rintro e w3 ⟨rfl, ht, hu⟩
              have HD3 := Lib.hid (blk_upd HD2.out hu HGB.out.1)
              have HT3 := Lib.hid ht
              have HU3 := Lib.hid hu
              have hl3 : LastM w3 m j f := HT2.out.last.upd hu (fun e => HT2.out.pos.2.2.2.1 e.symm)
              have hlk := hl3.look HI.out.2.1
              obtain ⟨w4, hup, hl4, hu4⟩ := hl3.put (v := d.seq) HI.out.2.1 HI.out.2.2.1 (by omega)
              have HT4 := Lib.hid (show TurnW w w4 p b m (j + 1) (keepS L d.session d.seq d.at_ d.r).1 (fun y => if y = d.session then d.seq else f y) from
                ⟨HT3.out.other hu4 (fun e => HT2.out.pos.2.2.2.2 e) (fun e => HT2.out.pos.2.2.2.1 e), HOK.out, hl4, HS.out, HT2.out.pos,
                  hu4.ext (HU3.out.ext HT2.out.ext (fun k hk => by rw [hk]; exact HT2.out.pos.2.1)) (fun k hk => by rw [hk]; exact HT2.out.pos.2.2.1)⟩)
              clear ht hu x0 x1 x2 x3 x4 x5 x6 x7 x8 x9 x10 x11 hl3 hl4 hu4
              have x1 : w3.cell? ⟨g, 1, none⟩ = some (.int .i64 d.session) := cell_blk HD3.out 1
              have x2 : w3.cell? ⟨g, 2, none⟩ = some (.int .i64 d.seq) := cell_blk HD3.out 2
              have hwr : wrap64 (f d.session + 1) = d.seq := by rw [← hq1]; exact IntWalk.wrap64_in _ HI.out.2.2.1
              have hsq : (d.seq != d.seq) = false := by simp
              clear hq1 hq2
              go_wp2_with fail
              go_meet
              exact ⟨_, _, HT4⟩
            · have HS := Lib.hid (keepS_same he)
              have hne : ((keepS L d.session d.seq d.at_ d.r).2 != 0) = true := bne_iff_ne.2 he
              rw [HS.out]
              rintro e w3 ⟨rfl, ht, hu⟩
              have HT3 := Lib.hid ((HT2.out.call ht HT2.out.ok hu HT2.out.same).more)
              clear ht hu he
              go_wp2_with fail
              go_roundw
              case rel => exact ⟨j + 1, by omega, by go_num, L, f, HT3⟩
              case measure => simp [intOf]; omega
      case rest =>
        obtain ⟨L', f', HT'⟩ := hcut
        clear HT2 HD2 HGB x0 x1 x2 x3 x4 x5 x6 x7 x8 x9 x10 x11
        go_wp2_with fail
        refine (Seats_calls wc p b L' HT'.out.ok.rise HT'.out.ok.i HT'.out.ok.len1 HT'.out.tab).mono ?_
        rintro e w3 ⟨v, rfl, ho, hx⟩
        have HT3 := Lib.hid (HT'.out.ext_ hx)
        obtain ⟨A, c, rfl, -, -, -, hrow⟩ := ho.rs
        have HR3 := Lib.hid hrow
        have hl8 := HT'.out.ok.len
        clear ho hx hrow HT'
        have HJ := Lib.hid hlt
        clear hlt
        go_wp2_with fail
        go_loopw [71] (fun i wr => ∃ q : Nat, q ≤ L'.length ∧ i = .int .i64 q ∧ Hid (Ext w3 wr)) (fun i _ => L'.length - (intOf i).toNat)
        case atStart => exact ⟨0, Nat.zero_le _, rfl, Lib.hid (Ext.refl _)⟩
        case round =>
          obtain ⟨q, hq, rfl, HX⟩ := hrel
          by_cases hlt : q < L'.length
          · have hTi := HT3.out.ext_ HX.out
            obtain ⟨ad3, rfl, -, -, hi, hx⟩ := (HR3.out.keep (w' := wr) fun b _ hl => HX.out.block b hl).seat hlt
            have hsm := hTi.same _ (List.getElem_mem hlt)
            have hlk := hTi.last.look hi.1
            rw [hsm] at hlk
            obtain ⟨x0, x1, x2, x3, x4, x5, x6, x7, x8, x9, x10⟩ := seat_at hx
            have HI3 := Lib.hid hi.1
            generalize L'[q] = s at *
            have HLK := Lib.hid (show ∀ W, Ext wr W → (Instr.lookup 42 (.map (some m)) (.int .i64 s.session) false).run Try.prog W = .ok (.int .i64 s.seq) W from fun W hW => by
              have := (hTi.last.ext hW).look HI3.out
              rwa [hsm] at this)
            clear hi hx hsm hlk hTi
            go_upto_region 22 with fail
            obtain ⟨w4, hw4⟩ : ∃ w4, w4 = wr.alloc (.cells (seatC s) 47) := ⟨_, rfl⟩
            obtain ⟨g4, hg4⟩ : ∃ g, g = wr.heap.size := ⟨_, rfl⟩
            have hx4 : Ext wr w4 := by rw [hw4]; exact (Ext.refl _).alloc _
            have HX4 := Lib.hid (HX.out.trans hx4)
            have hlk := HLK.out w4 hx4
            have hD4 : w4.heap[g4]? = some (.cells (seatC s) 47 (0, 0)) := by rw [hw4]; exact heap_new wr g4 hg4.symm _
            unfold seatC at hw4
            rw [← hw4, ← hg4]
            clear hw4 hg4 hx4 x0 x1 x2 x3 x4 x5 x6 x7 x8 x9 x10 HX
            have x0 : w4.cell? ⟨g4, 0, none⟩ = some (.int .i64 s.session) := cell_blk hD4 0
            have x1 : w4.cell? ⟨g4, 1, none⟩ = some (.int .i64 s.seq) := cell_blk hD4 1
            clear hD4
            have hsq : (s.seq != s.seq) = false := by simp
            go_wp2_with fail
            go_roundw
            case rel => exact ⟨q + 1, by omega, by go_num, HX4⟩
            case measure => simp [intOf]; omega
          · have HT4 := Lib.hid (HT3.out.ext_ HX.out)
            have hj2 := HJ.out
            go_wp2_with fail
            go_roundw
            case rel => exact ⟨j + 1, by omega, by go_num, L', f', HT4⟩
            case measure => simp [intOf]; omega
    · obtain rfl : j = l.length := by omega
      go_wp2_with fail
      refine (Seats_calls wr p b L HT.out.ok.rise HT.out.ok.i HT.out.ok.len1 HT.out.tab).mono ?_
      rintro e w8 ⟨v, rfl, ho, hx⟩
      have HX8 := Lib.hid (HT.out.ext.trans hx)
      have h8 := HT.out.ok.len
      obtain ⟨A, c, rfl, -⟩ := ho.rs
      clear ho hx
      go_wp2_with fail
      refine (awk _ HX8.out).mono ?_
      rintro e w' ⟨rfl, HE⟩
      go_wp2_with fail
      go_ret
      exact ⟨rfl, HE.out⟩
end Go.Proofs.Ytkedmpppfejofaa
