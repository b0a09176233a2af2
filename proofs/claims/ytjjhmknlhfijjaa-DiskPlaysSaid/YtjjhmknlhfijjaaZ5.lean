/-
  Texts of this claim, put together: DskFall, DskDo, DskOps, DskOps2.
-/
import Derived.Test.YtjjhmknlhfijjaaZ4
import Derived.StillTailTactics
import Derived.Lib.MinMax
import Derived.Shelf.Abstract
import Derived.Laws.EntriesVeiled
set_option linter.unusedVariables false
set_option linter.unusedSimpArgs false
namespace Go.Proofs.Ytjjhmknlhfijjaa
open Go.RowKit

/-- An act is done by its function value. -/
theorem act_calls {w : World} {b : Nat} {D S E : Nat → Prop} {L : KL Nam} {k : ActK} {f v : Value} {bs : Nam} (h : TabF w b D L) (hD : ¬ D b) (hf : ActF w S k f) (hS : ¬ S b) (hfit : fitA L k) (hn : ∀ n ∈ namesA k, mayF n = true)
    (hl : L.length ≤ 100000) (hsum : sumK L ≤ 1073741824) (hv : Rs kByte w E v bs) (hbs : bs.length ≤ 1073741824) :
    ∃ K cap, f = .func (.func K) #[] cap ∧ (∀ (args : Array Value) (w : World), (callFunc K args).run Try.prog w = .ok (.enter K args) w) ∧ Calls Try.prog K (#[.map (some b), v] ++ cap) w (Done w b D (doA L k bs)) := by
  cases k with
  | wr n a =>
    obtain ⟨c, c2, rfl, ⟨h1, h2⟩, h3, h4⟩ := hf
    refine ⟨_, _, rfl, enters_of Try.func51 (by kernel_rfl) rfl, ?_⟩
    have hn1 := mayF_len (hn n (by simp [namesA]))
    have := bytesK_le (L := L) n
    exact WrA_calls w b c c2 D E L n a v bs h hD (by omega) hl hfit hv (by omega) (fun e => hS (e ▸ h1)) (fun e => hS (e ▸ h2)) h3 h4
  | tr n a =>
    obtain ⟨c, c2, rfl, ⟨h1, h2⟩, h3, h4⟩ := hf
    refine ⟨_, _, rfl, enters_of Try.func74 (by kernel_rfl) rfl, ?_⟩
    have hn1 := mayF_len (hn n (by simp [namesA]))
    exact TrA_calls w b c c2 D L n a v h hD (by omega) hl hfit (fun e => hS (e ▸ h1)) (fun e => hS (e ▸ h2)) h3 h4
  | mv o t =>
    obtain ⟨c, c2, rfl, ⟨h1, h2⟩, h3, h4⟩ := hf
    refine ⟨_, _, rfl, enters_of Try.func56 (by kernel_rfl) rfl, ?_⟩
    have hn1 := mayF_len (hn o (by simp [namesA]))
    have hn2 := mayF_len (hn t (by simp [namesA]))
    exact MvA_calls w b c c2 D L o t v h hD (by omega) (by omega) hl hfit (fun e => hS (e ▸ h1)) (fun e => hS (e ▸ h2)) h3 h4
  | dp n =>
    obtain ⟨c, rfl, h1, h3⟩ := hf
    refine ⟨_, _, rfl, enters_of Try.func75 (by kernel_rfl) rfl, ?_⟩
    have hn1 := mayF_len (hn n (by simp [namesA]))
    exact DpA_calls w b c D L n v h hD (by omega) h3
/-- An act of a row, cell by cell. -/
theorem Row.act_ {w : World} {D S : Nat → Prop} {A : Option Addr} {xs : List ActS} (h : Row (kActE D) w S A xs) {j : Nat} (hj : j < xs.length) : ∃ ad f Ad cd, A = some ad ∧ w.cell? (ad.add (j * 3)) = some f ∧ w.cell? ⟨(ad.add (j * 3)).block, (ad.add (j * 3)).off + 1, none⟩ = some (.slice Ad xs[j].data.length cd) ∧ w.cell? ⟨(ad.add (j * 3)).block, (ad.add (j * 3)).off + 2, none⟩ = some (.int .i64 (xs[j].data.length : Int)) ∧
    ActF w D xs[j].k f ∧ Rs kByte w D (.slice Ad xs[j].data.length cd) xs[j].data := by
  obtain ⟨ad, cs, rfl, _, _, ⟨hK, _⟩, hc⟩ := h.get hj
  obtain ⟨f, v, rfl, h1, h2⟩ := hK
  obtain ⟨Ad, cd, e1, _⟩ := id h2
  subst e1
  have hg : ∀ i u, [f, .slice Ad xs[j].data.length cd, .int .i64 (xs[j].data.length : Int)][i]? = some u → 0 < i → w.cell? ⟨(ad.add (j * 3)).block, (ad.add (j * 3)).off + i, none⟩ = some u := fun i u hu hi => by
    have h := hc i u hu
    rw [← add_of_add] at h
    rw [show (ad.add (j * (kActE D).sz)).add i = ⟨(ad.add (j * 3)).block, (ad.add (j * 3)).off + i, none⟩ from by
      show (ad.add (j * 3)).add i = _
      unfold Addr.add
      rw [if_neg (show ¬ i = 0 by omega)]] at h
    exact h
  exact ⟨ad, f, Ad, cd, rfl, hc 0 _ rfl, hg 1 _ rfl (by decide), hg 2 _ rfl (by decide), h1, h2⟩
theorem sliceActs (A : Option Addr) (len cap : Nat) (h : Int) (H : Nat) (hh : h = (H : Int)) (hc : H ≤ cap) (W : World) :
    (Instr.sliceAt 54 (.slice A len cap) none (some (.int .i64 h)) none).run Try.prog W = .ok (.slice A H cap) W := by
  obtain ⟨i, hi, hz0, hz1, hz2⟩ := info_parts tActs.info
  have ht : Try.prog.underlying 54 = some (.slice (Try.prog.elem 54)) := by rw [tActs.under]; simp [Program.elem, tActs.under]
  have he : Try.prog.elem 54 = 87 := by simp [Program.elem, tActs.under]
  subst hh
  rw [run_sliceAt_slice _ _ _ _ _ _ ht, run_slice_h _ _ _ _ _ ht _ _ (by omega) (by omega), he]
  have h0 : ∀ a : Addr, a.add 0 = a := fun a => by unfold Addr.add; rw [if_pos rfl]
  simp [sizeOf, typeInfo, hi, hz1, sliced, h0]
/-- What the loop has done. -/
def fallA (l : List ActS) (n : Nat) (tear : Int) (i : Nat) : List ActS := if i < n then l.take i else keptA l n tear
theorem fallA_zero (l : List ActS) (n : Nat) (tear : Int) : fallA l n tear 0 = [] := by
  unfold fallA
  split
  · rfl
  · have : n = 0 := by omega
    subst this
    exact keptA_zero _ _
theorem fallA_end (l : List ActS) (n : Nat) (tear : Int) : fallA l n tear n = keptA l n tear := by unfold fallA; rw [if_neg (by omega)]
theorem fallA_step (l : List ActS) (n : Nat) (tear : Int) (i : Nat) (h : i + 1 < n) (hn : n ≤ l.length) : fallA l n tear (i + 1) = fallA l n tear i ++ [l[i]] := by
  unfold fallA
  rw [if_pos h, if_pos (by omega), List.take_succ_eq_append_getElem (by omega)]
theorem fallA_last (l : List ActS) (n : Nat) (tear : Int) (i : Nat) (h : i + 1 = n) (hn : n ≤ l.length) : fallA l n tear (i + 1) = fallA l n tear i ++ [tornA tear l[i]] := by
  subst h
  rw [fallA_end, keptA_succ _ _ _ (by omega)]
  unfold fallA
  rw [if_pos (by omega)]
theorem fallA_fits {L : KL Nam} {l : List ActS} (h : fitsA L l) {n : Nat} (hn : n ≤ l.length) (tear : Int) (i : Nat) : fitsA L (fallA l n tear i) := by
  unfold fallA
  split
  · exact fits_take _ _ _ h
  · exact kept_fits h hn tear
theorem fallA_costs (l : List ActS) {n : Nat} (hn : n ≤ l.length) (tear : Int) (i : Nat) : costs (fallA l n tear i) ≤ costs l := by
  unfold fallA
  split
  · exact costs_take _ _
  · exact kept_costs l hn tear
theorem clamp_int (k : Int) (n : Nat) : (clampN k n : Int) = max 0 (min k n) := by unfold clampN; omega

/-- The disk while the power goes: only its lasting files turn. -/
structure FalY (w0 w : World) (p : Nat) (D : Nat → Prop) (s : DkS) (b1 b2 : Nat) (av : Value) (done : List ActS) : Prop where
  blk : w.heap[p]? = some (.cells (dkC s b1 b2 av) 56 (0, 0))
  lasts : TabF w b2 (fun k => D k ∨ w0.heap.size ≤ k) (runA s.last done)
  acts : ActR w D av s.acts
  upd : Upd (fun k => k = b2) w0 w
theorem FalY.ext {w0 w w' : World} {p b1 b2 : Nat} {D : Nat → Prop} {s : DkS} {av : Value} {done : List ActS} (h : FalY w0 w p D s b1 b2 av done) (he : Ext w w') : FalY w0 w' p D s b1 b2 av done :=
  ⟨blk_ext h.blk he, h.lasts.ext he, h.acts.upd (he.upd fun _ => False) (fun _ _ h => h) (fun _ _ h => h), h.upd.trans (he.upd _)⟩
/-- The next act of a falling disk. -/
theorem FalY.act {w0 w : World} {p b1 b2 : Nat} {M D : Nat → Prop} {s : DkS} {av f v : Value} {done : List ActS} {x : ActS} (h0 : DkY w0 p M D s b1 b2 av) (h : FalY w0 w p D s b1 b2 av done) (hfit : fitsA s.last (done ++ [x])) (hcost : costs (done ++ [x]) ≤ costs s.acts)
    (hf : ActF w D x.k f) (hv : Rs kByte w D v x.data) :
    ∃ K cap, f = .func (.func K) #[] cap ∧ (∀ (args : Array Value) (w : World), (callFunc K args).run Try.prog w = .ok (.enter K args) w) ∧ Calls Try.prog K (#[.map (some b2), v] ++ cap) w fun e w' => e = .returned (.tuple #[]) ∧ Hid (FalY w0 w' p D s b1 b2 av (done ++ [x])) := by
  have hb2 : M b2 := h0.inM b2 (.inr (.inr (.inl rfl)))
  have hlt := h0.ltM b2 hb2
  have hD : ¬ D b2 := fun hk => h0.apart b2 hk hb2
  have hfit' := (fits_snoc _ _ _).1 hfit
  have hroom := h0.ok.room
  have hmost := h0.ok.most
  have hsum := runA_sum done h0.ok.rise hfit'.1
  rw [costs_append] at hcost
  have hx : costs [x] = x.data.length := by simp [costs]
  unfold DkS.used at hroom
  obtain ⟨K, cap, e, eK, hc⟩ := act_calls (f := f) (v := v) (bs := x.data) h.lasts (show ¬ (D b2 ∨ w0.heap.size ≤ b2) by rintro (h | h); exact hD h; omega) hf hD hfit'.2.1 hfit'.2.2.1 (by have := runA_len done h0.ok.files hfit'.1; omega) (by omega) hv (by omega)
  refine ⟨K, cap, e, eK, hc.mono ?_⟩
  rintro e w' ⟨rfl, ht, hu⟩
  refine ⟨rfl, Lib.hid ⟨blk_upd h.blk hu h0.ne.2.1, ?_, h.acts.upd hu (fun k hk e => hD (e ▸ hk)) (fun k hk e => h0.ne.2.2.2.2.2 (by rw [hk, e])), h.upd.trans hu⟩⟩
  rw [runA_snoc]
  refine ht.mono fun k hk => ?_
  have := h.upd.le
  rcases hk with (hk | hk) | hk
  · exact .inl hk
  · exact .inr hk
  · exact .inr (by omega)
/-- What stands behind a fall. -/
theorem fall_end {w wr w2 : World} {p b1 b2 o : Nat} {M D : Nat → Prop} {s : DkS} {av : Value} {keep tear : Int} (h : DkY w p M D s b1 b2 av) (hF : FalY w wr p D s b1 b2 av (keptA s.acts (clampN keep s.acts.length) tear)) (ho : o = wr.heap.size)
    (ht : TabF w2 o (Fresh o o) (fallS s keep tear).last) (hx : Ext wr w2) :
    ∃ M' D', DkX ((((((w2.setCell ⟨p, 5, none⟩ (.map (some o))).setCell ⟨p, 7, none⟩ (.slice none 0 0)).setCell ⟨p, 0, none⟩ (.bool true)).setCell ⟨p, 1, none⟩ (.int .i64 0)).setCell ⟨p, 2, none⟩ (.int .i64 0)).setCell ⟨p, 3, none⟩ (.int .i64 0)) p M' D' (fallS s keep tear) ∧
      DkT w ((((((w2.setCell ⟨p, 5, none⟩ (.map (some o))).setCell ⟨p, 7, none⟩ (.slice none 0 0)).setCell ⟨p, 0, none⟩ (.bool true)).setCell ⟨p, 1, none⟩ (.int .i64 0)).setCell ⟨p, 2, none⟩ (.int .i64 0)).setCell ⟨p, 3, none⟩ (.int .i64 0)) M D M' D' := by
  have b0 := blk_ext hF.blk hx
  have b1' := heap_setCell_same w2 p 5 _ _ (.map (some o)) b0
  have b2' := heap_setCell_same _ p 7 _ _ (.slice none 0 0) b1'
  have b3' := heap_setCell_same _ p 0 _ _ (.bool true) b2'
  have b4' := heap_setCell_same _ p 1 _ _ (.int .i64 0) b3'
  have b5' := heap_setCell_same _ p 2 _ _ (.int .i64 0) b4'
  have b6' := heap_setCell_same _ p 3 _ _ (.int .i64 0) b5'
  have hu : Upd (fun k => k = p) w2 ((((((w2.setCell ⟨p, 5, none⟩ (.map (some o))).setCell ⟨p, 7, none⟩ (.slice none 0 0)).setCell ⟨p, 0, none⟩ (.bool true)).setCell ⟨p, 1, none⟩ (.int .i64 0)).setCell ⟨p, 2, none⟩ (.int .i64 0)).setCell ⟨p, 3, none⟩ (.int .i64 0)) :=
    (((((((Upd.refl (fun k => k = p) w2).set (g := p) (.inl rfl) _).set (g := p) (.inl rfl) _).set (g := p) (.inl rfl) _).set (g := p) (.inl rfl) _).set (g := p) (.inl rfl) _).set (g := p) (.inl rfl) _)
  generalize ((((((w2.setCell ⟨p, 5, none⟩ (.map (some o))).setCell ⟨p, 7, none⟩ (.slice none 0 0)).setCell ⟨p, 0, none⟩ (.bool true)).setCell ⟨p, 1, none⟩ (.int .i64 0)).setCell ⟨p, 2, none⟩ (.int .i64 0)).setCell ⟨p, 3, none⟩ (.int .i64 0)) = W at *
  clear b1' b2' b3' b4' b5'
  have hpM : M p := h.inM p (.inl rfl)
  have hbM : M b2 := h.inM b2 (.inr (.inr (.inl rfl)))
  have hp := h.ltM p hpM
  have hb := h.ltM b2 hbM
  have hle1 := hF.upd.le
  have hle2 := hx.le
  have hle3 := hu.le
  have hol := ht.lt
  have hlr := hF.lasts.lt
  refine ⟨fun k => M k ∨ k = o, fun k => (D k ∨ w.heap.size ≤ k) ∧ k ≠ o ∧ k < w2.heap.size, ⟨o, b2, .slice none 0 0, ?_⟩, ?_⟩
  · constructor
    case blk => exact b6'
    case sees =>
      refine (ht.bound.upd hu (by omega) (fun k hk => ?_)).mono fun k hk => ?_
      · have := hk.1.1; omega
      · have := hk.1.1; have := hk.1.2; exact ⟨.inr (by omega), hk.1.2, hk.2⟩
    case lasts =>
      refine ((hF.lasts.bound.ext hx).upd hu (fun e => h.ne.2.1 e.symm) (fun k hk e => ?_)).mono fun k hk => ?_
      · rcases hk.1 with h1 | h1
        · exact h.apart k h1 (e ▸ hpM)
        · omega
      · exact ⟨hk.1, by have := hk.2; omega, by have := hk.2; omega⟩
    case acts => exact ActR.nil _ _
    case inM =>
      rintro k (rfl | rfl | rfl | hk)
      · exact .inl hpM
      · exact .inr rfl
      · exact .inl hbM
      · cases hk
    case apart =>
      rintro k ⟨h1, h2, h3⟩ (h4 | h4)
      · rcases h1 with h1 | h1
        · exact h.apart k h1 h4
        · have := h.ltM k h4; omega
      · exact h2 h4
    case ne => exact ⟨by omega, h.ne.2.1, by omega, by simp [Value.ownBlock], by simp [Value.ownBlock], by simp [Value.ownBlock]⟩
    case ltM =>
      rintro k (hk | rfl)
      · have := h.ltM k hk; omega
      · omega
    case ltD => exact fun k hk => Nat.lt_of_lt_of_le hk.2.2 hle3
    case ok => exact fall_ok h.ok _ _
  · refine ⟨((hF.upd.mono ?_).trans (hx.upd M)).trans (hu.mono ?_), ?_, ?_⟩
    · rintro k rfl; exact hbM
    · rintro k rfl; exact hpM
    · rintro k (hk | rfl)
      · exact .inl hk
      · exact .inr (by omega)
    · rintro k ⟨h1, _⟩
      rcases h1 with h1 | h1
      · exact .inl h1
      · exact .inr h1
set_option maxRecDepth 100000 in
set_option maxHeartbeats 4000000 in
theorem fall_calls (w : World) (p b1 b2 : Nat) (M D : Nat → Prop) (s : DkS) (av : Value) (keep tear : Int) (h : DkY w p M D s b1 b2 av) (hk : I64 keep) (ht : I64 tear) :
    Calls Try.prog 47 #[ptr p, .int .i64 keep, .int .i64 tear] w fun e w' => e = .returned (.tuple #[]) ∧ ∃ M' D', DkX w' p M' D' (fallS s keep tear) ∧ DkT w w' M D M' D' := by
  have HH := Lib.hid h
  have HF0 := Lib.hid (show FalY w w p D s b1 b2 av [] from ⟨h.blk, h.lasts.mono (fun _ hk => .inl hk), h.acts, Upd.refl _ _⟩)
  have hb := h.blk
  obtain ⟨A, c, hav, hl1, hl2, hl3, -⟩ := h.acts.rs
  subst hav
  have hc7 : w.cell? ⟨p, 7, none⟩ = some (.slice A s.acts.length c) := cell_blk hb 7
  have hlt := blk_lt hb
  have hle := clamp_le keep s.acts.length
  obtain ⟨n, hn⟩ : ∃ n, n = clampN keep s.acts.length := ⟨_, rfl⟩
  have hmm : max 0 (min keep (s.acts.length : Int)) = (n : Int) := by rw [hn, clamp_int]
  have hsl := sliceActs A s.acts.length c (n : Int) n rfl (by omega)
  have HN := Lib.hid hn
  have HLE := Lib.hid (show n ≤ s.acts.length by omega)
  clear hb h hl1 hle hn
  unfold ptr
  go_enter Try.func47, Try.ntmps47
  go_wp2_with fail
  go_loopw [25] (fun i wr => ∃ k : Nat, k ≤ n ∧ i = .int .i64 k ∧ Hid (FalY w wr p D s b1 b2 (.slice A s.acts.length c) (fallA s.acts n tear k))) (fun i _ => n - (intOf i).toNat)
  case atStart => exact ⟨0, Nat.zero_le _, rfl, by rw [fallA_zero]; exact HF0⟩
  case round =>
    clear HF0
    obtain ⟨k, hkn, rfl, HF⟩ := hrel
    by_cases hlt2 : k < n
    · obtain ⟨ad, f, Ad, cd, rfl, x0, x1, x2, hf, hd⟩ := HF.out.acts.rs.shape.2.2.2.2.act_ (j := k) (by have := HLE.out; omega)
      obtain ⟨w2, hw2⟩ : ∃ w2, w2 = wr.alloc (.cells #[f, .slice Ad s.acts[k].data.length cd, .int .i64 (s.acts[k].data.length : Int)] 87) := ⟨_, rfl⟩
      obtain ⟨g, hg⟩ : ∃ g, g = wr.heap.size := ⟨_, rfl⟩
      have hx2 : Ext wr w2 := by rw [hw2]; exact (Ext.refl _).alloc _
      have HF2 := Lib.hid (HF.out.ext hx2)
      have hb2 : w2.heap[g]? = some (.cells #[f, .slice Ad s.acts[k].data.length cd, .int .i64 (s.acts[k].data.length : Int)] 87 (0, 0)) := by rw [hw2]; exact heap_new wr g hg.symm _
      have HB2 := Lib.hid hb2
      have hf2 := hf.move (w' := w2.drew) fun b hb => hx2.block b (by have := HF.out.upd.le; have := HH.out.ltD b hb; omega)
      have hd2 := (hd.ext hx2).drew
      have HFD := Lib.hid (HF.out.ext hx2.drew)
      clear hf hd hb2
      by_cases hlast : k + 1 = n
      · have HT := Lib.hid (fallA_last s.acts n tear k hlast HLE.out)
        have HFT := Lib.hid (fallA_fits HH.out.ok.fits HLE.out tear (k + 1))
        have HCO := Lib.hid (fallA_costs s.acts HLE.out tear (k + 1))
        rw [HT.out] at HFT HCO
        obtain ⟨q, hq⟩ : ∃ q, q = clampN tear s.acts[k].data.length := ⟨_, rfl⟩
        have hq1 : max 0 (min tear (s.acts[k].data.length : Int)) = (q : Int) := by rw [hq, clamp_int]
        have hq2 : q ≤ s.acts[k].data.length := by rw [hq]; exact clamp_le _ _
        obtain ⟨-, hs2, hs3, hs4, -⟩ := hd2.shape
        have hsl2 := slice_to tBytes Ad s.acts[k].data.length cd .i64 ((s.acts[k].data.length : Int) - (q : Int)) (s.acts[k].data.length - q) (by omega) (by omega)
        have hto := hd2.to_ (h := s.acts[k].data.length - q) rfl (by omega)
        simp only [partV_eq, Nat.sub_zero] at hsl2 hto
        have htorn : s.acts[k].data.take (s.acts[k].data.length - q) = (tornA tear s.acts[k]).data := by unfold tornA tornB; rw [hq]
        rw [htorn] at hto
        obtain ⟨K, cap, rfl, eK, hcall⟩ := FalY.act HH.out HFD.out HFT.out HCO.out hf2 hto
        have hkk : ((k : Int) == (n : Int) - 1) = true := beq_iff_eq.2 (by omega)
        clear hto htorn hq
        have HFN := Lib.hid hcall
        clear hcall hf2 hd2
        go_upto_region 7 with fail
        rw [← hw2, ← hg]
        clear hw2 hg hx2 x0 x1 x2 hc7 hsl2 hq1 hq2 hkk
        have y0 : w2.cell? ⟨g, 0, none⟩ = some (.func (.func K) #[] cap) := cell_blk HB2.out 0
        have y3 : w2.cell? ⟨p, 6, none⟩ = some (.map (some b2)) := cell_blk HF2.out.blk 6
        go_still_tail 7, (by kernel_rfl)
        change wpList _ _ _ _ _ w2.drew
        generalize w2.drew = w3 at *
        go_wp2_with fail
        refine HFN.out.mono ?_
        rintro e w4 ⟨rfl, HF4⟩
        rw [← HT.out] at HF4
        go_wp2_with fail
        go_roundw
        case rel => exact ⟨k + 1, by omega, by go_num, HF4⟩
        case measure => simp [intOf]; omega
      · have HT := Lib.hid (fallA_step s.acts n tear k (by omega) HLE.out)
        have HFT := Lib.hid (fallA_fits HH.out.ok.fits HLE.out tear (k + 1))
        have HCO := Lib.hid (fallA_costs s.acts HLE.out tear (k + 1))
        rw [HT.out] at HFT HCO
        obtain ⟨K, cap, rfl, eK, hcall⟩ := FalY.act HH.out HFD.out HFT.out HCO.out hf2 hd2
        have hkk : ((k : Int) == (n : Int) - 1) = false := beq_eq_false_iff_ne.2 (by omega)
        have HFN := Lib.hid hcall
        clear hcall hf2 hd2
        go_upto_region 7 with fail
        rw [← hw2, ← hg]
        clear hw2 hg hx2 x0 x1 x2 hc7 
        have y0 : w2.cell? ⟨g, 0, none⟩ = some (.func (.func K) #[] cap) := cell_blk HB2.out 0
        have y3 : w2.cell? ⟨p, 6, none⟩ = some (.map (some b2)) := cell_blk HF2.out.blk 6
        go_still_tail 7, (by kernel_rfl)
        change wpList _ _ _ _ _ w2.drew
        generalize w2.drew = w3 at *
        go_wp2_with fail
        refine HFN.out.mono ?_
        rintro e w4 ⟨rfl, HF4⟩
        rw [← HT.out] at HF4
        go_wp2_with fail
        go_roundw
        case rel => exact ⟨k + 1, by omega, by go_num, HF4⟩
        case measure => simp [intOf]; omega
    · obtain rfl : k = n := by omega
      rw [fallA_end] at HF
      have hc6 : wr.cell? ⟨p, 6, none⟩ = some (.map (some b2)) := cell_blk HF.out.blk 6
      have HL4 := Lib.hid (runA_len _ HH.out.ok.files (kept_fits HH.out.ok.fits HLE.out tear))
      clear hsl hmm hc7 hl2 hl3 hlt2 hkn
      go_wp2_with fail
      refine (copied_calls wr b2 _ _ HF.out.lasts (by have := HL4.out; omega)).mono ?_
      rintro e w2 ⟨rfl, ht2, hx2⟩
      obtain ⟨o, ho⟩ : ∃ o, o = wr.heap.size := ⟨_, rfl⟩
      rw [← ho] at ht2 ⊢
      have HT2 := Lib.hid ht2
      have HX2 := Lib.hid hx2
      have HO := Lib.hid ho
      have hb2 := blk_ext HF.out.blk hx2
      have HB2 := Lib.hid hb2
      have hc0 : w2.cell? ⟨p, 0, none⟩ = some (.bool s.off) := cell_blk hb2 0
      have hc1 : w2.cell? ⟨p, 1, none⟩ = some (.int .i64 s.left) := cell_blk hb2 1
      have hc2 : w2.cell? ⟨p, 2, none⟩ = some (.int .i64 s.keep) := cell_blk hb2 2
      have hc3 : w2.cell? ⟨p, 3, none⟩ = some (.int .i64 s.tear) := cell_blk hb2 3
      have hc5 : w2.cell? ⟨p, 5, none⟩ = some (.map (some b1)) := cell_blk hb2 5
      have hc7 : w2.cell? ⟨p, 7, none⟩ = some (.slice A s.acts.length c) := cell_blk hb2 7
      have hz : ∀ i, w2.frozen? ⟨p, i, none⟩ = false := fun i => frozen_blk hb2 i
      clear hb2 hx2 ht2 ho hc6
      go_wp2_with fail
      go_end0
      exact ⟨rfl, fall_end HH.out (by rw [← HN.out]; exact HF.out) HO.out (by unfold fallS; rw [← HN.out]; exact HT2.out) HX2.out⟩
end Go.Proofs.Ytjjhmknlhfijjaa
set_option linter.unusedVariables false
set_option linter.unusedSimpArgs false
namespace Go.Proofs.Ytjjhmknlhfijjaa
open Go.RowKit

/-- What a step of a disk leaves. -/
def DkP (w : World) (p : Nat) (M D : Nat → Prop) (w' : World) (s' : DkS) : Prop := ∃ M' D', DkX w' p M' D' s' ∧ DkT w w' M D M' D'
theorem DkT.refl (w : World) (M D : Nat → Prop) : DkT w w M D M D := ⟨Upd.refl _ _, fun _ h => .inl h, fun _ h => .inl h⟩
theorem DkT.trans {a b c : World} {M D M' D' M2 D2 : Nat → Prop} (h : DkT a b M D M' D') (k : DkT b c M' D' M2 D2) : DkT a c M D M2 D2 := by
  refine ⟨⟨k.1.os.trans h.1.os, k.1.tape.trans h.1.tape, k.1.output.trans h.1.output, Nat.le_trans h.1.size k.1.size, fun i hi hn => ?_⟩, fun i hi => ?_, fun i hi => ?_⟩
  · refine (k.1.block i (Nat.lt_of_lt_of_le hi h.1.size) fun hm => ?_).trans (h.1.block i hi hn)
    rcases h.2.1 i hm with h1 | h1
    · exact hn h1
    · omega
  · rcases k.2.1 i hi with h1 | h1
    · exact h.2.1 i h1
    · exact .inr (Nat.le_trans h.1.size h1)
  · rcases k.2.2 i hi with h1 | h1
    · exact h.2.2 i h1
    · exact .inr (Nat.le_trans h.1.size h1)
theorem DkP.trans {a b : World} {p : Nat} {M D M' D' : Nat → Prop} {w' : World} {s' : DkS} (h : DkT a b M D M' D') (k : DkP b p M' D' w' s') : DkP a p M D w' s' := by
  obtain ⟨M2, D2, h1, h2⟩ := k
  exact ⟨M2, D2, h1, h.trans h2⟩
theorem DkX.p {w : World} {p : Nat} {M D : Nat → Prop} {s : DkS} (h : DkX w p M D s) : DkP w p M D w s := ⟨M, D, h, DkT.refl _ _ _⟩
theorem DkY.x {w : World} {p b1 b2 : Nat} {M D : Nat → Prop} {s : DkS} {av : Value} (h : DkY w p M D s b1 b2 av) : DkX w p M D s := ⟨b1, b2, av, h⟩
theorem Ext.dkT {a b : World} (h : Ext a b) (M D : Nat → Prop) : DkT a b M D M D := ⟨h.upd M, fun _ h => .inl h, fun _ h => .inl h⟩
/-- More blocks that never turn. -/
theorem DkY.moreD {w : World} {p b1 b2 : Nat} {M D E : Nat → Prop} {s : DkS} {av : Value} (h : DkY w p M D s b1 b2 av) (hM : ∀ k, E k → ¬ M k) (hlt : ∀ k, E k → k < w.heap.size) : DkY w p M (fun k => D k ∨ E k) s b1 b2 av where
  blk := h.blk
  sees := h.sees.mono fun _ h => .inl h
  lasts := h.lasts.mono fun _ h => .inl h
  acts := h.acts.more (fun _ h => .inl h) (fun k hk => hk.elim (h.ltD k) (hlt k)) fun k hk he => (he.elim (fun hd => h.apart k hd (h.inM k (.inr (.inr (.inr hk))))) fun he => hM k he (h.inM k (.inr (.inr (.inr hk)))))
  inM := h.inM
  apart := fun k hk => hk.elim (h.apart k) (hM k)
  ne := h.ne
  ltM := h.ltM
  ltD := fun k hk => hk.elim (h.ltD k) (hlt k)
  ok := h.ok
theorem Rs.one_act {w : World} {D : Nat → Prop} {g : Nat} {f v : Value} {x : ActS} (hb : w.heap[g]? = some (.cells #[f, v, .int .i64 (x.data.length : Int)] 87 (0, 0))) (hf : ActF w D x.k f) (hv : Rs kByte w D v x.data) (hD : ∀ k, D k → k < w.heap.size) :
    Rs (kActE D) w (fun k => D k ∨ k = g) (.slice (some ⟨g, 0, none⟩) 1 1) [x] :=
  ⟨_, 1, rfl, by simp, by omega, by simp, Row.of_block hb (.inr rfl) fun j y hj => by
    cases j with
    | zero =>
      simp at hj
      subst hj
      exact ⟨_, ⟨⟨f, v, rfl, hf, hv⟩, fun b hb => ⟨.inl hb, hD b hb⟩⟩, fun i u hi => by simpa using hi⟩
    | succ j => simp at hj⟩
theorem fall_hit (s : DkS) (k t : Int) : fallS (hitS s) k t = fallS s k t := by
  unfold fallS
  rw [hit_last, hit_acts, hit_room]
/-- What stands behind an act that was laid down. -/
theorem put_end {w w1 w2 : World} {p b1 b2 : Nat} {M D : Nat → Prop} {s : DkS} {av v' : Value} {x : ActS} {o : Obj} (h : DkY w p M D s b1 b2 av) (ht : TabF w1 b1 (fun k => D k ∨ w.heap.size ≤ k) (doA s.seen x.k x.data)) (hu : Upd (fun k => k = b1) w w1)
    (ho : Ow (kActE D) 87 w2 0 (fun k => D k ∨ av.ownBlock = some k ∨ w1.heap.size ≤ k) v' (s.acts ++ [x])) (hg : (w1.alloc o).grownBy w2 av.ownBlock) (hk : v'.ownBlock = av.ownBlock ∨ v'.ownBlock = some (w1.alloc o).heap.size) (hok : DkOk (putA s x)) :
    ∃ M' D', DkY (w2.setCell ⟨p, 7, none⟩ v') p M' D' (putA s x) b1 b2 v' ∧ DkT w (w2.setCell ⟨p, 7, none⟩ v') M D M' D' := by
  have hpM : M p := h.inM p (.inl rfl)
  have hb1 : M b1 := h.inM b1 (.inr (.inl rfl))
  have hb2 : M b2 := h.inM b2 (.inr (.inr (.inl rfl)))
  have hpl := h.ltM p hpM
  have hb1l := h.ltM b1 hb1
  have hb2l := h.ltM b2 hb2
  have hoM : ∀ k, av.ownBlock = some k → M k := fun k hk => h.inM k (.inr (.inr (.inr hk)))
  have hle1 := hu.le
  have hle2 : w1.heap.size + 1 ≤ w2.heap.size := by have := hg.size; simpa using this
  rw [World.size_alloc] at hk
  have hu2 : Upd (fun k => k = b1 ∨ av.ownBlock = some k) w w2 := ((hu.mono (fun _ h => .inl h)).alloc o).grown hg fun k hk => .inl (.inr hk)
  have hu12 : Upd (fun k => av.ownBlock = some k) w1 w2 := ((Upd.refl _ w1).alloc o).grown hg fun k hk => .inl hk
  have bp := blk_upd h.blk hu2 (by rintro (e | e); exact h.ne.1 e; exact h.ne.2.2.2.1 e)
  have bp' := heap_setCell_same w2 p 7 _ _ v' bp
  have hu3 : Upd (fun k => k = p) w2 (w2.setCell ⟨p, 7, none⟩ v') := (Upd.refl (fun k => k = p) w2).set (g := p) (.inl rfl) v'
  have hle3 := hu3.le
  have hD' : ∀ k, (D k ∨ (w.heap.size ≤ k ∧ k < w1.heap.size)) → k < w2.heap.size := fun k hk => by
    rcases hk with hk | hk
    · have := h.ltD k hk; omega
    · omega
  have hown : ∀ k, v'.ownBlock = some k → (M k ∧ av.ownBlock = some k) ∨ w1.heap.size < k := fun k hk' => by
    rcases hk with hk | hk
    · rw [hk] at hk'; exact .inl ⟨hoM k hk', hk'⟩
    · rw [hk] at hk'; injection hk' with e; exact .inr (by omega)
  have hownD : ∀ k, v'.ownBlock = some k → ¬ (D k ∨ (w.heap.size ≤ k ∧ k < w1.heap.size)) := fun k hk' => by
    rcases hown k hk' with ⟨h1, _⟩ | h1
    · have := h.ltM k h1
      rintro (h2 | h2)
      · exact h.apart k h2 h1
      · omega
    · rintro (h2 | h2)
      · have := h.ltD k h2; omega
      · omega
  refine ⟨fun k => M k ∨ v'.ownBlock = some k, fun k => D k ∨ (w.heap.size ≤ k ∧ k < w1.heap.size), ?_, ?_⟩
  · constructor
    case blk => exact bp'
    case sees =>
      rw [show (putA s x).seen = doA s.seen x.k x.data from runA_snoc _ _ _]
      refine ((ht.bound.mono (D' := fun k => D k ∨ (w.heap.size ≤ k ∧ k < w1.heap.size)) fun k hk => ?_).upd hu12 (h.ne.2.2.2.2.1) fun k hk e => ?_).upd hu3 (fun e => h.ne.1 e.symm) fun k hk e => ?_
      · rcases hk with ⟨h1 | h1, h2⟩
        · exact .inl h1
        · exact .inr ⟨h1, h2⟩
      · have := h.ltM k (hoM k e)
        rcases hk with h1 | h1
        · exact h.apart k h1 (hoM k e)
        · omega
      · rcases hk with h1 | h1
        · exact h.apart k h1 (e ▸ hpM)
        · omega
    case lasts =>
      refine ((h.lasts.upd hu2 (by rintro (e | e); exact h.ne.2.2.1 e.symm; exact h.ne.2.2.2.2.2 e) fun k hk e => ?_).upd hu3 (fun e => h.ne.2.1 e.symm) fun k hk e => h.apart k hk (e ▸ hpM)).mono fun _ h => .inl h
      rcases e with e | e
      · exact h.apart k hk (e ▸ hb1)
      · exact h.apart k hk (hoM k e)
    case acts =>
      refine (ActR.of ho (fun _ h => .inl h) hD' hownD).upd hu3 (fun k hk e => ?_) fun k hk e => ?_
      · rcases hk with h1 | h1
        · exact h.apart k h1 (e ▸ hpM)
        · omega
      · rcases hown k hk with ⟨_, h1⟩ | h1
        · exact h.ne.2.2.2.1 (by rw [h1, e])
        · omega
    case inM =>
      rintro k (rfl | rfl | rfl | hk)
      · exact .inl hpM
      · exact .inl hb1
      · exact .inl hb2
      · exact .inr hk
    case apart =>
      rintro k hk (h1 | h1)
      · rcases hk with h2 | h2
        · exact h.apart k h2 h1
        · have := h.ltM k h1; omega
      · exact hownD k h1 hk
    case ne =>
      refine ⟨h.ne.1, h.ne.2.1, h.ne.2.2.1, fun e => ?_, fun e => ?_, fun e => ?_⟩
      · rcases hown _ e with ⟨_, h1⟩ | h1
        · exact h.ne.2.2.2.1 h1
        · omega
      · rcases hown _ e with ⟨_, h1⟩ | h1
        · exact h.ne.2.2.2.2.1 h1
        · omega
      · rcases hown _ e with ⟨_, h1⟩ | h1
        · exact h.ne.2.2.2.2.2 h1
        · omega
    case ltM =>
      rintro k (hk | hk)
      · have := h.ltM k hk; omega
      · have := ho.lt k hk; omega
    case ltD => exact fun k hk => Nat.lt_of_lt_of_le (hD' k hk) hle3
    case ok => exact hok
  · refine ⟨(hu2.mono ?_).trans (hu3.mono ?_), ?_, ?_⟩
    · rintro k (rfl | hk)
      · exact hb1
      · exact hoM k hk
    · rintro k rfl; exact hpM
    · rintro k (hk | hk)
      · exact .inl hk
      · rcases hown k hk with ⟨h1, _⟩ | h1
        · exact .inl h1
        · exact .inr (by omega)
    · rintro k (hk | hk)
      · exact .inl hk
      · exact .inr hk.1
set_option maxRecDepth 100000 in
set_option maxHeartbeats 4000000 in
theorem do_calls (w : World) (p b1 b2 : Nat) (M D : Nat → Prop) (s : DkS) (av f v : Value) (x : ActS) (h : DkY w p M D s b1 b2 av) (hf : ActF w D x.k f) (hv : Rs kByte w D v x.data) (hfit : fit1 s.seen x) (hroom : (s.used : Int) + x.data.length ≤ s.room) (hn : s.acts.length ≤ 1000000) :
    Calls Try.prog 50 #[ptr p, v, f] w fun e w' => e = .returned (.int .i64 (pushS s x).1) ∧ DkP w p M D w' (pushS s x).2 := by
  have HH := Lib.hid h
  have HV := Lib.hid hv
  have HF := Lib.hid hf
  have hb1 : ¬ D b1 := fun hk => h.apart b1 hk (h.inM b1 (.inr (.inl rfl)))
  obtain ⟨Av, cv, e, hvl, -⟩ := id hv
  subst e
  have hsum := h.ok.seen_sum
  have hrm := h.ok.room
  have hmost := h.ok.most
  obtain ⟨K, cap, rfl, eK, hcall⟩ := act_calls (f := f) h.sees hb1 hf hb1 hfit.1 hfit.2.1 (by have := h.ok.seen_len; omega) (by omega) hv (by omega)
  have HC := Lib.hid hcall
  have HN := Lib.hid hn
  have HFIT := Lib.hid hfit
  have HROOM := Lib.hid hroom
  have hb := h.blk
  have hc5 : w.cell? ⟨p, 5, none⟩ = some (.map (some b1)) := cell_blk hb 5
  have hlt := blk_lt hb
  clear hb h hf hv hcall hfit hroom hsum hrm hmost hn hb1
  unfold ptr
  go_enter Try.func50, Try.ntmps50
  go_wp2_with fail
  refine HC.out.mono ?_
  rintro e w1 ⟨rfl, ht1, hu1⟩
  have HT1 := Lib.hid ht1
  have HU1 := Lib.hid hu1
  have hc7 : w1.cell? ⟨p, 7, none⟩ = some av := cell_blk (blk_upd HH.out.blk hu1 HH.out.ne.1) 7
  have hlt1 : p < w1.heap.size := Nat.lt_of_lt_of_le hlt hu1.le
  clear ht1 hu1 hc5
  obtain ⟨w2, hw2⟩ : ∃ w2, w2 = w1.alloc (.cells #[.func (.func K) #[] cap, .slice Av x.data.length cv, .int .i64 (x.data.length : Int)] 87) := ⟨_, rfl⟩
  have hx2 : Ext w1 w2 := by rw [hw2]; exact (Ext.refl _).alloc _
  have hz2 : w2.heap.size = w1.heap.size + 1 := by rw [hw2, World.size_alloc]
  have hx02 : Upd (fun k => k = b1) w w2 := HU1.out.trans (hx2.upd _)
  have hoM : ∀ k, av.ownBlock = some k → M k := fun k hk => HH.out.inM k (.inr (.inr (.inr hk)))
  have hbM : M b1 := HH.out.inM b1 (.inr (.inl rfl))
  have HOW := Lib.hid (show Ow (kActE D) 87 w2 0 (fun k => D k ∨ av.ownBlock = some k ∨ w1.heap.size ≤ k) av s.acts from
    (HH.out.acts.upd hx02 (fun k hk e => HH.out.apart k hk (e ▸ hbM)) (fun k hk e => HH.out.ne.2.2.2.2.1 (by rw [hk, e]))).mono fun k hk => hk.elim .inl fun h => .inr (.inl h))
  have HRS := Lib.hid (show Rs (kActE D) w2 (fun k => D k ∨ k = w1.heap.size) (.slice (some ⟨w1.heap.size, 0, none⟩) 1 1) [x] from
    Rs.one_act (by rw [hw2]; exact heap_alloc_new _ _) (HF.out.move fun b hb => hx02.block b (HH.out.ltD b hb) (fun e => HH.out.apart b hb (e ▸ hbM))) (HV.out.upd hx02 (fun k hk e => HH.out.apart k hk (e ▸ hbM))) (fun k hk => Nat.lt_of_lt_of_le (HH.out.ltD k hk) hx02.le))
  have HST := Lib.hid (show ∀ y cs, (kActE D).K w2 (fun k => D k ∨ k = w1.heap.size) y cs → (kActE D).K w2 (fun b => (D b ∨ av.ownBlock = some b ∨ w1.heap.size ≤ b) ∧ some b ≠ av.ownBlock) y cs from
    fun y cs hy => (kActE D).mono (fun b hb => ⟨hb.elim .inl fun e => .inr (.inr (by omega)), fun e => by
      have h1 := hoM b e.symm
      rcases hb with hb | hb
      · exact HH.out.apart b hb h1
      · have := HH.out.ltM b h1; have := HU1.out.le; omega⟩) hy)
  have HW2 := Lib.hid hw2
  have hx03 : ∀ {w3 : World}, w2.grownBy w3 av.ownBlock → Upd (fun k => k = b1 ∨ av.ownBlock = some k) w w3 := fun hg => (hx02.mono fun _ h => .inl h).grown hg fun k hk => .inl (.inr hk)
  clear hw2 hx2 hz2 hx02 hoM hbM
  go_wp2_with (at_builtin; rw [← HW2.out]; refine wpList_append_Rs (kActE D) rfl (.tmp 18) (.tmp 24) 54 87 rfl tActs 0 _ _ s.acts [x] _ _ rfl rfl HOW.out HRS.out HST.out (fun k hk => .inr (.inr (Nat.le_trans (by rw [HW2.out, World.size_alloc]; omega) hk))) (by have := HN.out; simp; omega) (Nat.zero_le _) ?_)
  intro v' w3 ho hg hbk
  obtain ⟨A', c', e, -, -, -, -⟩ := ho.rs
  obtain ⟨ln, hln⟩ : ∃ ln, ln = (s.acts ++ [x]).length := ⟨_, rfl⟩
  rw [← hln] at e
  clear hln
  subst e
  obtain ⟨M1, D1, hy, hT⟩ := put_end HH.out HT1.out HU1.out ho (HW2.out ▸ hg) (HW2.out ▸ hbk) (put_ok HH.out.ok HFIT.out HROOM.out)
  have HY := Lib.hid hy
  have HT := Lib.hid hT
  have hb3 := blk_upd HH.out.blk (hx03 hg) (by rintro (e | e); exact HH.out.ne.1 e; exact HH.out.ne.2.2.2.1 e)
  have hc7' : w3.cell? ⟨p, 7, none⟩ = some av := cell_blk hb3 7
  have hz7' : w3.frozen? ⟨p, 7, none⟩ = false := frozen_blk hb3 7
  clear ho hg hbk hy hT hb3 hc7
  go_wp2_with fail
  refine (struck_calls _ p b1 b2 M1 D1 _ _ HY.out).mono ?_
  have hh : hitB (putA s x) = hitB s := rfl
  rw [hh]
  rintro e w4 ⟨rfl, hy4, hu4⟩
  have HY4 := Lib.hid hy4
  have HT4 := Lib.hid (HT.out.trans ⟨hu4.mono (by rintro k rfl; exact HY.out.inM k (.inl rfl)), fun _ h => .inl h, fun _ h => .inl h⟩)
  have hc2 : w4.cell? ⟨p, 2, none⟩ = some (.int .i64 s.keep) := by
    have := cell_blk hy4.blk 2
    rw [this]
    unfold dkC hitS
    split <;> rfl
  have hc3 : w4.cell? ⟨p, 3, none⟩ = some (.int .i64 s.tear) := by
    have := cell_blk hy4.blk 3
    rw [this]
    unfold dkC hitS
    split <;> rfl
  clear hy4 hu4 hh hc7' hz7'
  by_cases hhit : hitB s = true
  · have HE := Lib.hid (show pushS s x = (22, fallS (putA s x) s.keep s.tear) by unfold pushS; rw [if_pos hhit])
    rw [hhit]
    clear hhit
    go_wp2_with fail
    have hx4 := (Ext.refl w4).drew
    go_still_tail 11, (by kernel_rfl)
    change wpList _ _ _ _ _ w4.drew
    have HY5 := Lib.hid (HY4.out.ext hx4)
    have HT5 := Lib.hid (HT4.out.trans (hx4.dkT _ _))
    clear hx4 hc2 hc3
    generalize w4.drew = w5 at *
    go_wp2_with fail
    refine (fall_calls w5 p b1 b2 _ _ _ _ _ _ HY5.out HH.out.ok.keep HH.out.ok.tear).mono ?_
    rintro e w6 ⟨rfl, hp⟩
    have HP := Lib.hid (DkP.trans HT5.out hp)
    clear hp
    go_wp2_with fail
    go_ret
    rw [HE.out]
    rw [fall_hit] at HP
    exact ⟨rfl, HP.out⟩
  · have HE := Lib.hid (show pushS s x = (0, hitS (putA s x)) by unfold pushS; rw [if_neg hhit])
    have hhit' : hitB s = false := by simpa using hhit
    rw [hhit']
    clear hhit hhit'
    go_wp2_with fail
    go_ret
    rw [HE.out]
    exact ⟨rfl, _, _, HY4.out.x, HT4.out⟩
end Go.Proofs.Ytjjhmknlhfijjaa
set_option linter.unusedVariables false
set_option linter.unusedSimpArgs false
namespace Go.Proofs.Ytjjhmknlhfijjaa
open Go.RowKit

theorem DkX.ext {w w' : World} {p : Nat} {M D : Nat → Prop} {s : DkS} (h : DkX w p M D s) (he : Ext w w') : DkX w' p M D s := by
  obtain ⟨b1, b2, av, h⟩ := h
  exact ⟨b1, b2, av, h.ext he⟩
theorem DkX.ok {w : World} {p : Nat} {M D : Nat → Prop} {s : DkS} (h : DkX w p M D s) : DkOk s := by
  obtain ⟨b1, b2, av, h⟩ := h
  exact h.ok
theorem DkX.lt {w : World} {p : Nat} {M D : Nat → Prop} {s : DkS} (h : DkX w p M D s) : p < w.heap.size := by
  obtain ⟨b1, b2, av, h⟩ := h
  exact blk_lt h.blk
theorem ext_p {w w' : World} {p : Nat} {M D : Nat → Prop} {s : DkS} (h : DkX w p M D s) (he : Ext w w') : DkP w p M D w' s := ⟨M, D, h.ext he, he.dkT M D⟩
theorem costs_snoc (l : List ActS) (k : Nat) (h : k < l.length) : costs (l.take (k + 1)) = costs (l.take k) + l[k].data.length := by
  rw [List.take_succ_eq_append_getElem h, costs_append]
  simp [costs]
theorem rdy_off {s : DkS} (h : s.off = true) : rdyF s = 22 := by unfold rdyF; rw [h]; rfl
theorem rdy_on {s : DkS} (h : s.off = false) : rdyF s = 0 := by unfold rdyF; rw [h]; rfl
set_option maxRecDepth 100000 in
set_option maxHeartbeats 2000000 in
theorem Used_calls (w : World) (p : Nat) (M D : Nat → Prop) (s : DkS) (h : DkX w p M D s) :
    Calls Try.prog 30 #[ptr p] w fun e w' => e = .returned (.int .i64 (usedF s)) ∧ Ext w w' := by
  obtain ⟨b1, b2, av, h⟩ := h
  obtain ⟨A, c, hav, hl1, hl2, hl3, -⟩ := h.acts.rs
  subst hav
  have HH := Lib.hid h
  have hb := h.blk
  have hlt := blk_lt hb
  have hc6 : w.cell? ⟨p, 6, none⟩ = some (.map (some b2)) := cell_blk hb 6
  clear hb h
  unfold ptr
  rcases ho : s.off with _ | _
  · have HR := Lib.hid (rdy_on ho)
    have HU := Lib.hid (show usedF s = (sumK s.last + costs s.acts : Nat) by unfold usedF DkS.used; rw [ho]; rfl)
    have HB := Lib.hid (show sumK s.last + costs s.acts ≤ 1073741824 by have h1 := HH.out.ok.room; have h2 := HH.out.ok.most; unfold DkS.used at h1; omega)
    clear ho
    go_enter Try.func30, Try.ntmps30
    go_wp2_with fail
    refine (ready_calls w p b1 b2 M D s _ HH.out).mono ?_
    rw [HR.out]
    rintro e w' ⟨rfl, rfl⟩
    go_wp2_with fail
    refine (total_calls w b2 D s.last HH.out.lasts (by have := HB.out; omega)).mono ?_
    rintro e w1 ⟨rfl, hx1⟩
    have HX1 := Lib.hid hx1
    have hc7 : w1.cell? ⟨p, 7, none⟩ = some (.slice A s.acts.length c) := cell_blk (blk_ext HH.out.blk hx1) 7
    have hlt1 : p < w1.heap.size := Nat.lt_of_lt_of_le hlt hx1.le
    clear hx1 hc6
    go_wp2_with fail
    go_loopw [3, 19] (fun n i wr => ∃ k : Nat, k ≤ s.acts.length ∧ i = .int .i64 k ∧ n = .int .i64 ((sumK s.last + costs (s.acts.take k) : Nat) : Int) ∧ Hid (Ext w wr)) (fun _ i _ => s.acts.length - (intOf i).toNat)
    case atStart => exact ⟨0, Nat.zero_le _, rfl, by simp [costs], HX1⟩
    case round =>
      clear HX1 hc7
      obtain ⟨k, hk, rfl, rfl, HX⟩ := hrel
      by_cases hlt2 : k < s.acts.length
      · obtain ⟨ad, f, Ad, cd, rfl, x0, x1, x2, hf, hd⟩ := (HH.out.ext HX.out).acts.rs.shape.2.2.2.2.act_ (j := k) hlt2
        have hfv : ∃ K cap, f = .func (.func K) #[] cap := by
          cases hk : s.acts[k].k with
          | wr n a => rw [hk] at hf; obtain ⟨c, c2, rfl, _⟩ := hf; exact ⟨_, _, rfl⟩
          | tr n a => rw [hk] at hf; obtain ⟨c, c2, rfl, _⟩ := hf; exact ⟨_, _, rfl⟩
          | mv o t => rw [hk] at hf; obtain ⟨c, c2, rfl, _⟩ := hf; exact ⟨_, _, rfl⟩
          | dp n => rw [hk] at hf; obtain ⟨c, rfl, _⟩ := hf; exact ⟨_, _, rfl⟩
        obtain ⟨K, cap, rfl⟩ := hfv
        have HSN := Lib.hid (costs_snoc s.acts k hlt2)
        have hle1 : costs (s.acts.take k) + s.acts[k].data.length ≤ 1073741824 := by
          have h1 := costs_snoc s.acts k hlt2
          have h2 := costs_take s.acts (k + 1)
          have h3 := HB.out
          omega
        have hle2 : sumK s.last + costs (s.acts.take k) + s.acts[k].data.length ≤ 1073741824 := by
          have h1 := costs_snoc s.acts k hlt2
          have h2 := costs_take s.acts (k + 1)
          have h3 := HB.out
          omega
        obtain ⟨a, ha⟩ : ∃ a, a = sumK s.last + costs (s.acts.take k) := ⟨_, rfl⟩
        rw [← ha] at hle2 ⊢
        have HA := Lib.hid ha
        clear hf hd ha hle1
        go_wp2_with fail
        go_roundw
        case rel => exact ⟨k + 1, by omega, by go_num, by rw [HSN.out]; have := HA.out; congr 1; omega, Lib.hid (HX.out.alloc _)⟩
        case measure => simp [intOf]; omega
      · obtain rfl : k = s.acts.length := by omega
        rw [List.take_length]
        rw [← HU.out]
        clear hlt2
        go_wp2_with fail
        go_ret
        exact ⟨rfl, HX.out⟩
  · have HR := Lib.hid (rdy_off ho)
    have HU := Lib.hid (show usedF s = 0 by unfold usedF; rw [ho]; rfl)
    clear ho
    go_enter Try.func30, Try.ntmps30
    go_wp2_with fail
    refine (ready_calls w p b1 b2 M D s _ HH.out).mono ?_
    rw [HR.out]
    rintro e w' ⟨rfl, rfl⟩
    go_wp2_with fail
    go_ret
    rw [HU.out]
    exact ⟨rfl, Ext.refl _⟩
theorem tens (x : Nat) : True := trivial
set_option maxHeartbeats 1000000 in
theorem Pending_calls (w : World) (p : Nat) (M D : Nat → Prop) (s : DkS) (h : DkX w p M D s) :
    Calls Try.prog 29 #[ptr p] w fun e w' => e = .returned (.int .i64 (pendF s)) ∧ w = w' := by
  obtain ⟨b1, b2, av, h⟩ := h
  obtain ⟨A, c, hav, hl1, hl2, hl3, -⟩ := h.acts.rs
  subst hav
  have HH := Lib.hid h
  have hb := h.blk
  have hlt := blk_lt hb
  have hc7 : w.cell? ⟨p, 7, none⟩ = some (.slice A s.acts.length c) := cell_blk hb 7
  clear hb h
  unfold ptr
  rcases ho : s.off with _ | _
  · have HR := Lib.hid (rdy_on ho)
    have HU := Lib.hid (show pendF s = s.acts.length by unfold pendF; rw [ho]; rfl)
    clear ho
    go_enter Try.func29, Try.ntmps29
    go_wp2_with fail
    refine (ready_calls w p b1 b2 M D s _ HH.out).mono ?_
    rw [HR.out]
    rintro e w' ⟨rfl, rfl⟩
    go_wp2_with fail
    go_ret
    rw [HU.out]
    exact ⟨rfl, rfl⟩
  · have HR := Lib.hid (rdy_off ho)
    have HU := Lib.hid (show pendF s = 0 by unfold pendF; rw [ho]; rfl)
    clear ho
    go_enter Try.func29, Try.ntmps29
    go_wp2_with fail
    refine (ready_calls w p b1 b2 M D s _ HH.out).mono ?_
    rw [HR.out]
    rintro e w' ⟨rfl, rfl⟩
    go_wp2_with fail
    go_ret
    rw [HU.out]
    exact ⟨rfl, rfl⟩
set_option maxHeartbeats 1000000 in
theorem Crash_calls (w : World) (p : Nat) (M D : Nat → Prop) (s : DkS) (keep tear : Int) (h : DkX w p M D s) (hk : I64 keep) (ht : I64 tear) :
    Calls Try.prog 20 #[ptr p, .int .i64 keep, .int .i64 tear] w fun e w' => e = .returned (.int .i64 (crashS s keep tear).1) ∧ DkP w p M D w' (crashS s keep tear).2 := by
  obtain ⟨b1, b2, av, h⟩ := h
  have HH := Lib.hid h
  have hlt := blk_lt h.blk
  clear h
  unfold ptr
  rcases ho : s.off with _ | _
  · have HR := Lib.hid (rdy_on ho)
    have HU := Lib.hid (show crashS s keep tear = (0, fallS s keep tear) by unfold crashS; rw [ho]; rfl)
    clear ho
    go_enter Try.func20, Try.ntmps20
    go_wp2_with fail
    refine (ready_calls w p b1 b2 M D s _ HH.out).mono ?_
    rw [HR.out]
    rintro e w' ⟨rfl, rfl⟩
    go_wp2_with fail
    refine (fall_calls w p b1 b2 M D s av keep tear HH.out hk ht).mono ?_
    rintro e w' ⟨rfl, hp⟩
    have HP := Lib.hid hp
    clear hp
    go_wp2_with fail
    go_ret
    rw [HU.out]
    exact ⟨rfl, HP.out⟩
  · have HR := Lib.hid (rdy_off ho)
    have HU := Lib.hid (show crashS s keep tear = (22, s) by unfold crashS; rw [ho]; rfl)
    clear ho
    go_enter Try.func20, Try.ntmps20
    go_wp2_with fail
    refine (ready_calls w p b1 b2 M D s _ HH.out).mono ?_
    rw [HR.out]
    rintro e w' ⟨rfl, rfl⟩
    go_wp2_with fail
    go_ret
    rw [HU.out]
    exact ⟨rfl, HH.out.x.p⟩
set_option maxHeartbeats 1000000 in
theorem Start_calls (w : World) (p : Nat) (M D : Nat → Prop) (s : DkS) (h : DkX w p M D s) :
    Calls Try.prog 15 #[ptr p] w fun e w' => e = .returned (.int .i64 0) ∧ DkP w p M D w' (startS s) := by
  obtain ⟨b1, b2, av, h⟩ := h
  have hb := h.blk
  have hlt := blk_lt hb
  have hc0 : w.cell? ⟨p, 0, none⟩ = some (.bool s.off) := cell_blk hb 0
  have hc5 : w.cell? ⟨p, 5, none⟩ = some (.map (some b1)) := cell_blk hb 5
  have hz0 : w.frozen? ⟨p, 0, none⟩ = false := frozen_blk hb 0
  have qE := eqlMap
  have HW := Lib.hid (show DkP w p M D (w.setCell ⟨p, 0, none⟩ (.bool false)) (startS s) from by
    have hu : Upd (fun k => k = p) w (w.setCell ⟨p, 0, none⟩ (.bool false)) := (Upd.refl (fun k => k = p) w).set (g := p) (.inl rfl) _
    exact ⟨M, D, (h.turn hu (s' := startS s) rfl rfl (heap_setCell_same w p 0 _ _ (.bool false) hb) (start_ok h.ok)).x, hu.mono (by rintro k rfl; exact h.inM k (.inl rfl)), fun _ h => .inl h, fun _ h => .inl h⟩)
  clear hb h
  unfold ptr
  go_enter Try.func15, Try.ntmps15
  go_wp2_with fail
  go_ret
  exact ⟨rfl, HW.out⟩
end Go.Proofs.Ytjjhmknlhfijjaa
set_option linter.unusedVariables false
set_option linter.unusedSimpArgs false
namespace Go.Proofs.Ytjjhmknlhfijjaa
open Go.RowKit

theorem do_in {w w1 : World} {p b1 b2 : Nat} {M D : Nat → Prop} {s : DkS} {av f v : Value} {x : ActS} (h : DkY w p M D s b1 b2 av) (hx : Ext w w1) (hf : ActF w1 (fun k => w.heap.size ≤ k ∧ k < w1.heap.size) x.k f) (hv : Rs kByte w1 (fun k => w.heap.size ≤ k ∧ k < w1.heap.size) v x.data)
    (hfit : fit1 s.seen x) (hroom : (s.used : Int) + x.data.length ≤ s.room) (hn : s.acts.length ≤ 1000000) :
    Calls Try.prog 50 #[ptr p, v, f] w1 fun e w' => e = .returned (.int .i64 (pushS s x).1) ∧ DkP w p M D w' (pushS s x).2 := by
  have h1 := (h.ext hx).moreD (E := fun k => w.heap.size ≤ k ∧ k < w1.heap.size) (fun k hk hm => by have := h.ltM k hm; omega) (fun k hk => hk.2)
  refine (do_calls w1 p b1 b2 M _ s av f v x h1 (hf.mono fun _ h => .inr h) (hv.mono fun _ h => .inr h) hfit hroom hn).mono ?_
  rintro e w' ⟨rfl, hp⟩
  exact ⟨rfl, hp.trans ⟨hx.upd M, fun _ h => .inl h, fun k hk => hk.elim .inl fun h => .inr h.1⟩⟩
theorem makeF (P : Program) : ∀ (fn : Fn) (first cap : Array Value) (w : World), (Instr.makeFunc fn first cap).run P w = .ok (.func fn first cap) w := fun _ _ _ _ => rfl
set_option maxHeartbeats 2000000 in
theorem Drop_calls (w : World) (p : Nat) (M D : Nat → Prop) (s : DkS) (n : Nam) (h : DkX w p M D s) (hn : n.length ≤ 9223372036854775807) (hc : s.acts.length ≤ 1000000) :
    Calls Try.prog 59 #[ptr p, .string ⟨n.toArray⟩] w fun e w' => e = .returned (.int .i64 (dropS s n).1) ∧ DkP w p M D w' (dropS s n).2 := by
  obtain ⟨b1, b2, av, h⟩ := h
  have HH := Lib.hid h
  have HN := Lib.hid hn
  have HC := Lib.hid hc
  have hlt := blk_lt h.blk
  have hmf := makeF Try.prog
  clear h hn hc
  unfold ptr
  obtain ⟨w1, hw1⟩ : ∃ w1, w1 = w.alloc (strO n) := ⟨_, rfl⟩
  have HX1 := Lib.hid (show Ext w w1 by rw [hw1]; exact (Ext.refl w).alloc _)
  have HB1 := Lib.hid (show w1.heap[w.heap.size]? = some (strO n) by rw [hw1]; exact heap_alloc_new _ _)
  have HY1 := Lib.hid (HH.out.ext HX1.out)
  have HFI := Lib.hid ((find_calls w1 p b1 b2 M D s av HY1.out n HN.out))
  unfold strO at hw1
  by_cases hf : findF s n = 0
  · have HF := Lib.hid hf
    have HU := Lib.hid (show dropS s n = pushS s ⟨.dp n, []⟩ by unfold dropS; rw [if_pos hf])
    clear hf
    go_enter Try.func59, Try.ntmps59
    go_upto_region 1 with fail
    rw [← hw1]
    have hc0 : w1.cell? ⟨w.heap.size, 0, none⟩ = some (.string ⟨n.toArray⟩) := cell_blk HB1.out 0
    clear hw1
    go_wp2_with fail
    refine HFI.out.mono ?_
    rw [HF.out]
    rintro e w2 ⟨rfl, hx2⟩
    have HX2 := Lib.hid (HX1.out.trans hx2)
    have HB2 := Lib.hid (blk_ext HB1.out hx2)
    clear hx2 hc0
    go_wp2_with fail
    refine (do_in (x := ⟨.dp n, []⟩) HH.out HX2.out ⟨w.heap.size, rfl, ⟨Nat.le_refl _, blk_lt HB2.out⟩, HB2.out⟩ (Rs.nil _ _ _) (drop_fits HH.out.ok HF.out).1 (none_room HH.out.ok) HC.out).mono ?_
    rintro e w3 ⟨rfl, hp⟩
    have HP := Lib.hid hp
    clear hp
    go_wp2_with fail
    go_ret
    rw [HU.out]
    exact ⟨rfl, HP.out⟩
  · have HU := Lib.hid (show dropS s n = (findF s n, s) by unfold dropS; rw [if_neg hf])
    obtain ⟨r, hr⟩ : ∃ r, r = findF s n := ⟨_, rfl⟩
    rw [← hr] at hf
    have hf2 : (r != 0) = true := bne_iff_ne.2 hf
    have HR := Lib.hid hr
    clear hr hf
    go_enter Try.func59, Try.ntmps59
    go_upto_region 1 with fail
    rw [← hw1]
    have hc0 : w1.cell? ⟨w.heap.size, 0, none⟩ = some (.string ⟨n.toArray⟩) := cell_blk HB1.out 0
    clear hw1
    go_wp2_with fail
    refine HFI.out.mono ?_
    rw [← HR.out]
    rintro e w2 ⟨rfl, hx2⟩
    have HX2 := Lib.hid (HX1.out.trans hx2)
    clear hx2 hc0
    go_wp2_with fail
    go_ret
    rw [HU.out, HR.out]
    exact ⟨rfl, ext_p HH.out.x HX2.out⟩
end Go.Proofs.Ytjjhmknlhfijjaa
