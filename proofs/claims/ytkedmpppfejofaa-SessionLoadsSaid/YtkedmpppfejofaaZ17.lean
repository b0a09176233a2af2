/-
  Texts of this claim, put together: SesLd, SesSeatR, SesLoad.
-/
import Derived.Test.YtkedmpppfejofaaZ11
import Derived.Test.YtkedmpppfejofaaZ14
import Derived.Test.YtkedmpppfejofaaZ15
import Derived.Test.YtkedmpppfejofaaZ13
import Derived.Test.YtkedmpppfejofaaZ2
set_option linter.unusedVariables false
set_option linter.unusedSimpArgs false
namespace Go.Proofs.Ytkedmpppfejofaa
open Go.RowKit

/-- So many numbers, one behind the other. -/
def rdN : Nat → ScS → List Int × ScS
  | 0, s => ([], s)
  | k + 1, s => ((s.number.1 : Int) :: (rdN k s.number.2).1, (rdN k s.number.2).2)
theorem rdN_len : ∀ (k : Nat) (s : ScS), (rdN k s).1.length = k
  | 0, _ => rfl
  | k + 1, s => by simp [rdN, rdN_len k]
theorem rdN_snoc : ∀ (k : Nat) (s : ScS), rdN (k + 1) s = ((rdN k s).1 ++ [((rdN k s).2.number.1 : Int)], (rdN k s).2.number.2)
  | 0, s => rfl
  | k + 1, s => by
    have h := rdN_snoc k s.number.2
    unfold rdN
    rw [h]
    unfold rdN
    rfl
theorem rdN_in : ∀ (k : Nat) {s : ScS}, s.in_ → (rdN k s).2.in_
  | 0, _, h => h
  | k + 1, _, h => rdN_in k (ScS.in_number h)
theorem rdN_ok : ∀ (k : Nat) {s : ScS}, s.ok → (rdN k s).2.ok ∧ ∀ n ∈ (rdN k s).1, 0 ≤ n ∧ n < 9223372036854775808
  | 0, _, h => ⟨h, fun n hn => by simp [rdN] at hn⟩
  | k + 1, s, h => by
    have h1 := ScS.ok_number h
    have h2 := rdN_ok k h1.1
    refine ⟨h2.1, fun n hn => ?_⟩
    unfold rdN at hn
    rcases List.mem_cons.1 hn with rfl | hn
    · omega
    · exact h2.2 n hn
theorem seqB_cons (n : Int) (l : List Int) : seqB (n :: l) = digs n.toNat ++ seqB l := by simp [seqB]
/-- Numbers that were read without an error stood there. -/
theorem rdN_form : ∀ (k : Nat) {s : ScS}, s.in_ → (rdN k s).2.e = 0 → s.e = 0 ∧ s.rest = seqB (rdN k s).1 ++ (rdN k s).2.rest
  | 0, s, _, h => ⟨h, rfl⟩
  | k + 1, s, hi, h => by
    obtain ⟨h1, h2⟩ := rdN_form k (ScS.in_number hi) h
    obtain ⟨h3, h4⟩ := numC hi h1
    refine ⟨h3, ?_⟩
    unfold rdN
    rw [h4, h2, seqB_cons, Int.toNat_natCast, List.append_assoc]
/-- Numbers that stand there are read. -/
theorem rdN_back : ∀ (l : List Int) {s : ScS} {t : List UInt8}, (∀ n ∈ l, 0 ≤ n ∧ n < 9223372036854775808) → St s (seqB l ++ t) → ∃ s', rdN l.length s = (l, s') ∧ St s' t
  | [], s, t, _, h => ⟨s, rfl, h⟩
  | n :: l, s, t, hl, h => by
    have hn := hl n (List.mem_cons_self ..)
    rw [seqB_cons, List.append_assoc] at h
    obtain ⟨s1, h1, h2⟩ := numB h (by omega)
    obtain ⟨s2, h3, h4⟩ := rdN_back l (fun m hm => hl m (List.mem_cons_of_mem _ hm)) h2
    refine ⟨s2, ?_, h4⟩
    rw [List.length_cons]
    unfold rdN
    rw [h1, h3]
    have : ((n.toNat : Nat) : Int) = n := by omega
    simp [this]
def seatOf (l : List Int) : SeatS := ⟨l.getD 0 0, l.getD 1 0, l.getD 2 0, ⟨l.getD 3 0, l.getD 4 0, l.getD 5 0, l.getD 6 0, l.getD 7 0, l.getD 8 0, l.getD 9 0, l.getD 10 0⟩⟩
theorem seatOf_nums (s : SeatS) : seatOf s.nums = s := rfl
theorem nums_seatOf {l : List Int} (h : l.length = 11) : (seatOf l).nums = l := by
  match l, h with
  | [a, b, c, d, e, f, g, h, i, j, k], _ => rfl
theorem seatOf_set (l : List Int) (x : Int) (h : l.length < 11) : (seatC (seatOf l)).setIfInBounds l.length (.int .i64 x) = seatC (seatOf (l ++ [x])) := by
  match l, h with
  | [], _ => rfl
  | [_], _ => rfl
  | [_, _], _ => rfl
  | [_, _, _], _ => rfl
  | [_, _, _, _], _ => rfl
  | [_, _, _, _, _], _ => rfl
  | [_, _, _, _, _, _], _ => rfl
  | [_, _, _, _, _, _, _], _ => rfl
  | [_, _, _, _, _, _, _, _], _ => rfl
  | [_, _, _, _, _, _, _, _, _], _ => rfl
  | [_, _, _, _, _, _, _, _, _, _], _ => rfl
/-- A seat's numbers (a plain name). -/
def rd11 (s : ScS) : List Int × ScS := rdN 11 s
theorem rd11_eq (s : ScS) : rd11 s = rdN 11 s := rfl
theorem rd11_len (s : ScS) : (rd11 s).1.length = 11 := rdN_len 11 s
/-- A seat that stands there. -/
def rdSeat (s : ScS) : SeatS × ScS := (seatOf (rd11 s).1, (rd11 s).2)
theorem SeatOk.nums {x : SeatS} (h : SeatOk x) : ∀ n ∈ x.nums, 0 ≤ n ∧ n < 9223372036854775808 := by
  have h1 := idxF_iff.1 h.session
  have h2 := idxF_iff.1 h.at_
  have h3 := h.seq
  have h4 := chkR8_iff.1 h.r
  intro n hn
  unfold SeatS.nums at hn
  simp only [List.mem_cons] at hn
  rcases hn with rfl | rfl | rfl | hn
  · omega
  · omega
  · omega
  · have := h4 n hn; omega
theorem rdSeat_back {x : SeatS} (h : SeatOk x) {s : ScS} {t : List UInt8} (hs : St s (seqB x.nums ++ t)) : (rdSeat s).1 = x ∧ St (rdSeat s).2 t := by
  obtain ⟨s', h1, h2⟩ := rdN_back x.nums h.nums hs
  rw [nums_len] at h1
  unfold rdSeat
  rw [rd11_eq, h1]
  exact ⟨seatOf_nums x, h2⟩
theorem rdSeat_form {s : ScS} (hi : s.in_) (h : (rdSeat s).2.e = 0) : s.e = 0 ∧ s.rest = seqB (rdSeat s).1.nums ++ (rdSeat s).2.rest := by
  unfold rdSeat at h ⊢
  dsimp only at h ⊢
  rw [nums_seatOf (rd11_len s)]
  rw [rd11_eq] at h ⊢
  exact rdN_form 11 hi h
theorem rdSeat_nums {s : ScS} (hs : s.ok) : ∀ n ∈ (rdSeat s).1.nums, 0 ≤ n ∧ n < 9223372036854775808 := by
  unfold rdSeat
  dsimp only
  rw [nums_seatOf (rd11_len s), rd11_eq]
  exact (rdN_ok 11 hs).2
theorem rdSeat_ok {s : ScS} (hs : s.ok) : (rdSeat s).2.ok := by
  unfold rdSeat
  dsimp only
  rw [rd11_eq]
  exact (rdN_ok 11 hs).1
theorem imgT_cons (x : SeatS) (L : List SeatS) : imgT (x :: L) = seqB x.nums ++ imgT L := by simp [imgT]
theorem imgT_min : ∀ L : List SeatS, (∀ s ∈ L, SeatI s) → 11 * L.length ≤ (imgT L).length
  | [], _ => by simp [imgT]
  | x :: L, h => by
    have h1 := imgT_min L (fun s hs => h s (List.mem_cons_of_mem _ hs))
    have h2 : ∀ l : List Int, (∀ n ∈ l, I64 n) → l.length ≤ (seqB l).length := by
      intro l
      induction l with
      | nil => intro _; simp [seqB]
      | cons n l ih =>
        intro hl
        have h3 := ih (fun m hm => hl m (List.mem_cons_of_mem _ hm))
        have h4 := (digs_len n.toNat (by have := (hl n (List.mem_cons_self ..)).2; omega)).1
        rw [seqB_cons, List.length_append, List.length_cons]
        omega
    have h5 := h2 x.nums (h x (List.mem_cons_self ..)).nums
    rw [nums_len] at h5
    rw [imgT_cons, List.length_append, List.length_cons]
    omega

/-- If the bytes are an image, these are its seats so far. -/
def HN (b : List UInt8) (n k : Nat) (L : List SeatS) (s : ScS) : Prop := ∀ M, TabOk M → b = imgL M → n = M.length ∧ L = M.take k ∧ St s (imgT (M.drop k))
theorem HN_zero (b : List UInt8) : HN b (ScS.number ⟨b, 0, 0⟩).1 0 [] (ScS.number ⟨b, 0, 0⟩).2 := by
  intro M hM e
  have h0 : St ⟨b, 0, 0⟩ (digs M.length ++ imgT M) := by rw [e]; exact st0 _
  obtain ⟨s', h1, h2⟩ := numB h0 (by have := hM.len; omega)
  rw [h1]
  exact ⟨rfl, rfl, h2⟩
section
variable {b : List UInt8} {n k : Nat} {L : List SeatS} {s : ScS}
theorem HN.next (h : HN b n k L s) (hk : k < n) : HN b n (k + 1) (L ++ [(rdSeat s).1]) (rdSeat s).2 := by
  intro M hM e
  obtain ⟨h1, h2, h3⟩ := h M hM e
  have hkM : k < M.length := by omega
  rw [List.drop_eq_getElem_cons hkM, imgT_cons] at h3
  obtain ⟨h4, h5⟩ := rdSeat_back (hM.ok _ (List.getElem_mem hkM)) h3
  refine ⟨h1, ?_, h5⟩
  rw [List.take_succ_eq_append_getElem hkM, ← h2, h4]
theorem HN.good (h : HN b n k L s) (hk : k < n) {M : List SeatS} (hM : TabOk M) (e : b = imgL M) : SeatOk (rdSeat s).1 ∧ (rdSeat s).2.e = 0 ∧ Rise (L ++ [(rdSeat s).1]) := by
  obtain ⟨h1, h2, h3⟩ := h M hM e
  have hkM : k < M.length := by omega
  rw [List.drop_eq_getElem_cons hkM, imgT_cons] at h3
  obtain ⟨h4, h5⟩ := rdSeat_back (hM.ok _ (List.getElem_mem hkM)) h3
  refine ⟨by rw [h4]; exact hM.ok _ (List.getElem_mem hkM), h5.e, ?_⟩
  rw [h4, h2, ← List.take_succ_eq_append_getElem hkM]
  exact List.Pairwise.sublist (List.take_sublist _ _) hM.rise
theorem HN.no (h : HN b n k L s) (hk : k < n) (hbad : ¬ (SeatOk (rdSeat s).1 ∧ (rdSeat s).2.e = 0 ∧ Rise (L ++ [(rdSeat s).1]))) : ¬ ∃ M, TabOk M ∧ b = imgL M := fun ⟨_, hM, e⟩ => hbad (h.good hk hM e)
end
/-- The last session's number, or none. -/
def lastS (L : List SeatS) : Int := (L.getLast?.map (·.session)).getD 0
theorem lastS_snoc (L : List SeatS) (x : SeatS) : lastS (L ++ [x]) = x.session := by simp [lastS]
theorem rise_snoc {L : List SeatS} (hr : Rise L) {x : SeatS} (h : lastS L < x.session) : Rise (L ++ [x]) := by
  unfold Rise
  rw [List.pairwise_append]
  refine ⟨hr, by simp, fun s hs t ht => ?_⟩
  rw [List.mem_singleton.1 ht]
  rcases List.eq_nil_or_concat L with rfl | ⟨L', y, rfl⟩
  · simp at hs
  · rw [List.concat_eq_append] at *
    rw [lastS_snoc] at h
    rcases List.mem_append.1 hs with h1 | h1
    · have := (List.pairwise_append.1 hr).2.2 s h1 y (List.mem_singleton.2 rfl)
      omega
    · rw [List.mem_singleton.1 h1]; exact h
theorem snoc_last {L : List SeatS} {x : SeatS} (hr : Rise (L ++ [x])) (h1 : 1 ≤ x.session) : lastS L < x.session := by
  rcases List.eq_nil_or_concat L with rfl | ⟨L', y, rfl⟩
  · show (0 : Int) < _; omega
  · rw [List.concat_eq_append] at *
    rw [lastS_snoc]
    exact (List.pairwise_append.1 hr).2.2 y (by simp) x (by simp)
theorem putS_end {L : List SeatS} {x : SeatS} (hr : Rise (L ++ [x])) : putS L x = L ++ [x] := by
  have h := (List.pairwise_append.1 hr).2.2
  unfold putS
  rw [List.filter_eq_self.2 (fun s hs => by have := h s hs x (by simp); simp; omega)]
  have g : ∀ M : List SeatS, (∀ s ∈ M, s.session < x.session) → insS x M = M ++ [x] := by
    intro M
    induction M with
    | nil => intro _; rfl
    | cons y M ih =>
      intro hM
      unfold insS
      rw [if_neg (by have := hM y (List.mem_cons_self ..); omega), ih (fun s hs => hM s (List.mem_cons_of_mem _ hs))]
      rfl
  exact g L (fun s hs => h s hs x (by simp))
/-- What the bytes are. -/
def LdR (b : List UInt8) (r : Option (List SeatS)) : Prop := (∀ L, r = some L → TabOk L ∧ b = imgL L) ∧ (r = none → ¬ ∃ M, TabOk M ∧ b = imgL M)
theorem imgL_inj {L M : List SeatS} (hL : TabOk L) (hM : TabOk M) (h : imgL L = imgL M) : L = M := by
  have g : ∀ k, k ≤ M.length → ∃ s, HN (imgL L) M.length k (M.take k) s := by
    intro k
    induction k with
    | zero =>
      intro _
      have h0 := HN_zero (imgL L)
      have h1 := (h0 M hM h).1
      rw [h1] at h0
      exact ⟨_, by simpa using h0⟩
    | succ k ih =>
      intro hk
      obtain ⟨s, hs⟩ := ih (by omega)
      have h1 := hs.next (by omega)
      have h2 := (h1 M hM h).2.1
      rw [h2] at h1
      exact ⟨_, h1⟩
  obtain ⟨s, hs⟩ := g M.length (Nat.le_refl _)
  obtain ⟨h1, h2, _⟩ := hs L hL rfl
  rw [List.take_length] at h2
  rw [h2, h1, List.take_length]
theorem LdR.uniq {b : List UInt8} {r r' : Option (List SeatS)} (h : LdR b r) (h' : LdR b r') : r = r' := by
  cases r with
  | none => cases r' with
    | none => rfl
    | some M => exact absurd ⟨M, h'.1 M rfl⟩ (h.2 rfl)
  | some L => cases r' with
    | none => exact absurd ⟨L, h.1 L rfl⟩ (h'.2 rfl)
    | some M =>
      obtain ⟨h1, h2⟩ := h.1 L rfl
      obtain ⟨h3, h4⟩ := h'.1 M rfl
      rw [imgL_inj h1 h3 (by rw [← h2, ← h4])]
theorem LdR.yes {L : List SeatS} (h : TabOk L) : LdR (imgL L) (some L) := ⟨fun M e => by cases e; exact ⟨h, rfl⟩, fun e => by cases e⟩
end Go.Proofs.Ytkedmpppfejofaa
set_option linter.unusedVariables false
set_option linter.unusedSimpArgs false
namespace Go.Proofs.Ytkedmpppfejofaa
open Go.RowKit

theorem sea11 : (Try.prog.info? 47).map (·.size) = some 11 := by kernel_rfl
theorem Sc.toB {w : World} {B B' : Nat → Prop} {p q : Nat} {s : ScS} (h : Sc w B p q s) (hB : ∀ b, B b → b < w.heap.size → B' b) : Sc w B' p q s := by
  obtain ⟨v, h1, h2, h3, h4, h5, h6, h7⟩ := h
  exact ⟨v, h1, h2, h3.bound.mono fun b hb => ⟨hB b hb.1.1 hb.2, hb.1.2⟩, h4, h5, hB p h6 (blk_lt h1), hB q h7 (blk_lt h2)⟩
theorem Sc.inB {w : World} {B : Nat → Prop} {p q : Nat} {s : ScS} (h : Sc w B p q s) : ∀ k, two p q k → B k := by
  obtain ⟨_, _, _, _, _, _, h1, h2⟩ := h
  intro k hk
  rcases hk with rfl | rfl
  · exact h1
  · exact h2
/-- What is written elsewhere leaves a scan. -/
theorem Sc.off {w w' : World} {B S : Nat → Prop} {p q : Nat} {s : ScS} (h : Sc w B p q s) (hu : Upd S w w') (hS : ∀ k, B k → ¬ S k) : Sc w' B p q s :=
  h.upd hu (hS p (h.inB p (.inl rfl))) (hS q (h.inB q (.inr rfl))) fun b hb _ _ _ => hS b hb
/-- Where a seat's numbers are put: the cell of the pointer, what lies behind. -/
theorem ptr_set {w : World} {p e q : Nat} {l : List Int} {y x : Int} (hp : w.heap[p]? = some (.cells (seatC (seatOf l)) 47 (0, 0))) (he : w.heap[e]? = some (.cells #[.int .i64 y] 3 (0, 0))) (hq : w.heap[q]? = some (.cells (ptrsC p e) 74 (0, 0))) (hne : p ≠ e) (hl : l.length < 11) (h3 : l.length ≠ 3) :
    w.cell? ⟨q, l.length, none⟩ = some (.pointer (some ⟨p, l.length, none⟩)) ∧ (∃ u, w.cell? ⟨p, l.length, none⟩ = some u) ∧ w.frozen? ⟨p, l.length, none⟩ = false ∧
      (w.setCell ⟨p, l.length, none⟩ (.int .i64 x)).heap[p]? = some (.cells (seatC (seatOf (l ++ [x]))) 47 (0, 0)) ∧ (w.setCell ⟨p, l.length, none⟩ (.int .i64 x)).heap[e]? = some (.cells #[.int .i64 y] 3 (0, 0)) := by
  refine ⟨?_, ?_, frozen_blk hp _, ?_, ?_⟩
  · rw [cell_blk hq]
    rcases (show l.length = 0 ∨ l.length = 1 ∨ l.length = 2 ∨ l.length = 4 ∨ l.length = 5 ∨ l.length = 6 ∨ l.length = 7 ∨ l.length = 8 ∨ l.length = 9 ∨ l.length = 10 by omega) with h | h | h | h | h | h | h | h | h | h <;> rw [h] <;> rfl
  · rw [cell_blk hp]
    exact ⟨_, Array.getElem?_eq_getElem (show l.length < (seatC (seatOf l)).size from hl)⟩
  · rw [heap_setCell_same w p l.length _ _ (.int .i64 x) hp, seatOf_set l x hl]
  · exact (heap_setCell_other w ⟨p, l.length, none⟩ e _ hne.symm).trans he
theorem results_seat {fn : Func} {p : Tmp} (h : fn.results = #[.cell p 47]) (tmps : Array Value) (w : World) (g : Nat) (t : TypeId) (x : SeatS) (fr : Nat × Nat) (hp : tmps.getD p undef = .pointer (some ⟨g, 0, none⟩)) (hg : w.heap[g]? = some (.cells (seatC x) t fr)) :
    (results fn tmps).run Try.prog w = .ok (.agg (seatC x)) w := results_cell_row h tmps w g t (seatC x) fr _ hp hg Try.underlying47 rfl sea11
set_option maxRecDepth 100000 in
set_option maxHeartbeats 4000000 in
theorem seat_calls (w : World) (B : Nat → Prop) (p q : Nat) (s : ScS) (hs : Sc w B p q s) (hB : ∀ k, B k → k < w.heap.size) :
    Calls Try.prog 47 #[.pointer (some ⟨p, 0, none⟩)] w fun e w' => e = .returned (.agg (seatC (rdSeat s).1)) ∧ Sc w' B p q (rdSeat s).2 ∧ Upd (two p q) w w' := by
  have HS := Lib.hid hs
  have HB := Lib.hid hB
  clear hs hB
  go_enter Try.func47, Try.ntmps47
  go_upto_region 2 with fail
  obtain ⟨w1, hw1⟩ : ∃ w1, w1 = (w.alloc (.cells (seatC zeroS) 47)).alloc (.cells (seatC zeroS) 47) := ⟨_, rfl⟩
  obtain ⟨g2, hg2⟩ : ∃ g, g = w.heap.size := ⟨_, rfl⟩
  obtain ⟨g3, hg3⟩ : ∃ g, g = w.heap.size + 1 := ⟨_, rfl⟩
  have HX1 := Lib.hid (show Ext w w1 by rw [hw1]; exact ((Ext.refl _).alloc _).alloc _)
  have H21 := Lib.hid (show w1.heap[g2]? = some (.cells (seatC zeroS) 47 (0, 0)) by rw [hw1]; exact blk_ext (heap_new w g2 hg2.symm _) ((Ext.refl _).alloc _))
  have H31 := Lib.hid (show w1.heap[g3]? = some (.cells (seatC (seatOf [])) 47 (0, 0)) by rw [hw1]; exact heap_new _ g3 (by simp [hg3]) _)
  have HG := Lib.hid (show w.heap.size ≤ g2 ∧ w.heap.size ≤ g3 ∧ g2 ≠ g3 from ⟨by omega, by omega, by omega⟩)
  unfold seatC zeroS zeroR at hw1
  rw [← hw1, ← hg3, ← hg2]
  clear hw1 hg2 hg3
  go_wp2_with fail
  refine (numbers_calls w1 g3 _ H31.out).mono ?_
  rintro e w2 ⟨qq, hq, rfl, he, hptr, hx⟩
  have HX2 := Lib.hid (HX1.out.trans hx)
  have H22 := Lib.hid (blk_ext H21.out hx)
  have H32 := Lib.hid (blk_ext H31.out hx)
  have HEE := Lib.hid (show w1.heap.size ≤ w1.heap.size from Nat.le_refl _)
  obtain ⟨ee, hee⟩ : ∃ ee, ee = w1.heap.size := ⟨_, rfl⟩
  rw [← hee] at he hptr hq
  have HE2 := Lib.hid he
  have HQ2 := Lib.hid hptr
  have HN := Lib.hid (show w.heap.size ≤ ee ∧ w.heap.size ≤ qq ∧ g3 ≠ ee ∧ g2 ≠ ee from by
    have h1 := HX1.out.le
    have h2 := blk_lt H31.out
    have h3 := blk_lt H21.out
    exact ⟨by omega, by omega, by omega, by omega⟩)
  have hneq : qq ≠ g3 ∧ qq ≠ ee := by
    constructor
    · rintro rfl
      have h1 := H32.out
      have h2 := HQ2.out
      rw [h1] at h2
      simp only [Option.some.injEq, Obj.cells.injEq] at h2
      have := congrArg (fun a : Array Value => a[0]?) h2.1
      simp [seatC, ptrsC] at this
    · rintro rfl
      have h1 := HE2.out
      have h2 := HQ2.out
      rw [h1] at h2
      simp only [Option.some.injEq, Obj.cells.injEq] at h2
      have := congrArg (fun a : Array Value => a[0]?) h2.1
      simp [ptrsC] at this
  have HNQ := Lib.hid hneq
  clear hq he hptr hx HX1 H21 H31 HEE hee hneq
  go_wp2_with fail
  go_loopw [9] (fun i wr => ∃ j : Nat, j ≤ 11 ∧ i = .int .i64 j ∧ ∃ (l : List Int) (sj : ScS) (y : Int), Hid (rdN j s = (l, sj)) ∧ Hid (Sc wr B p q sj) ∧ Hid (wr.heap[g3]? = some (.cells (seatC (seatOf l)) 47 (0, 0))) ∧ Hid (wr.heap[ee]? = some (.cells #[.int .i64 y] 3 (0, 0))) ∧ Hid (wr.heap[qq]? = some (.cells (ptrsC g3 ee) 74 (0, 0))) ∧ Hid (wr.heap[g2]? = some (.cells (seatC zeroS) 47 (0, 0))) ∧ Hid (Upd (two p q) w wr)) (fun i _ => 11 - (intOf i).toNat)
  case atStart => exact ⟨0, by omega, rfl, [], s, _, Lib.hid rfl, Lib.hid (HS.out.ext HX2.out), H32, HE2, HQ2, H22, Lib.hid (HX2.out.upd _)⟩
  case round =>
    clear H32 HE2 HQ2 H22 HX2 HS
    obtain ⟨j, hj, rfl, l, sj, y, HRD, HS, H3, HE, HQ, H2, HU⟩ := hrel
    have hlen : l.length = j := by have := rdN_len j s; rw [HRD.out] at this; exact this
    have hpq : ∀ k, two p q k → k < w.heap.size := fun k hk => HB.out k (HS.out.inB k hk)
    have HPQ := Lib.hid hpq
    clear hpq
    by_cases hlt : j < 11
    · have HSN := Lib.hid (show rdN (j + 1) s = (l ++ [(sj.number.1 : Int)], sj.number.2) by rw [rdN_snoc, HRD.out])
      by_cases h3 : j = 3
      · subst h3
        have hc1 : wr.cell? ⟨qq, 3, none⟩ = some (.pointer (some ⟨ee, 0, none⟩)) := cell_blk HQ.out 3
        have HLEN := Lib.hid hlen
        clear hlen
        go_wp2_with fail
        refine (ScNumber_calls wr B p q sj HS.out).mono ?_
        rintro e w3 ⟨rfl, hs3, hu3⟩
        have HN3 := HPQ.out
        have hx3 := blk_upd H3.out hu3 (fun h => by have := HN3 g3 h; have := HG.out; omega)
        have hee3 := blk_upd HE.out hu3 (fun h => by have := HN3 ee h; have := HN.out; omega)
        have hq3 := blk_upd HQ.out hu3 (fun h => by have := HN3 qq h; have := HN.out; omega)
        have h23 := blk_upd H2.out hu3 (fun h => by have := HN3 g2 h; have := HG.out; omega)
        clear HN3
        obtain ⟨x, hx⟩ : ∃ x : Int, x = (sj.number.1 : Int) := ⟨_, rfl⟩
        rw [← hx] at HSN
        rw [← hx]
        have he0 : w3.cell? ⟨ee, 0, none⟩ = some (.int .i64 y) := cell_blk hee3 0
        have hf0 : w3.frozen? ⟨ee, 0, none⟩ = false := frozen_blk hee3 0
        have HS3 := Lib.hid hs3
        have HU3 := Lib.hid (HU.out.trans hu3)
        have HX3 := Lib.hid hx3
        have HE3 := Lib.hid hee3
        have HQ3 := Lib.hid hq3
        have H23 := Lib.hid h23
        clear hs3 hu3 hx3 hee3 hq3 h23 hx hc1
        go_upto_region 7 with fail
        obtain ⟨w4, hw4⟩ : ∃ w4, w4 = w3.setCell ⟨ee, 0, none⟩ (.int .i64 x) := ⟨_, rfl⟩
        have hx4 : w4.heap[g3]? = some (.cells (seatC (seatOf l)) 47 (0, 0)) := by rw [hw4]; exact (heap_setCell_other w3 ⟨ee, 0, none⟩ g3 _ (by have := HN.out; exact this.2.2.1)).trans HX3.out
        have hee4 : w4.heap[ee]? = some (.cells #[.int .i64 x] 3 (0, 0)) := by rw [hw4, heap_setCell_same w3 ee 0 _ _ (.int .i64 x) HE3.out]; rfl
        have hq4 : w4.heap[qq]? = some (.cells (ptrsC g3 ee) 74 (0, 0)) := by rw [hw4]; exact (heap_setCell_other w3 ⟨ee, 0, none⟩ qq _ HNQ.out.2).trans HQ3.out
        have h24 : w4.heap[g2]? = some (.cells (seatC zeroS) 47 (0, 0)) := by rw [hw4]; exact (heap_setCell_other w3 ⟨ee, 0, none⟩ g2 _ (by have := HN.out; exact this.2.2.2)).trans H23.out
        have hu4 : Upd (fun k => k = ee) w3 w4 := by rw [hw4]; exact (Upd.refl (fun k => k = ee) w3).set (.inl rfl) _
        have HU4 := Lib.hid (show Upd (two p q) w w4 by rw [hw4]; exact HU3.out.set (.inr HN.out.1) _)
        have hs4 := HS3.out.off hu4 (fun k hk e => by have h1 := HB.out k hk; have h2 := HN.out; have e' : k = ee := e; omega)
        have hg3c : w4.cell? ⟨g3, 3, none⟩ = some (.int .i64 (seatOf l).r.err) := cell_blk hx4 3
        have hg3f : w4.frozen? ⟨g3, 3, none⟩ = false := frozen_blk hx4 3
        have hset := seatOf_set l x (by rw [HLEN.out]; omega)
        rw [HLEN.out] at hset
        have hx5 : (w4.setCell ⟨g3, 3, none⟩ (.int .i64 x)).heap[g3]? = some (.cells (seatC (seatOf (l ++ [x]))) 47 (0, 0)) := by rw [heap_setCell_same w4 g3 3 _ _ (.int .i64 x) hx4, hset]
        have hu5 : Upd (fun k => k = g3) w4 (w4.setCell ⟨g3, 3, none⟩ (.int .i64 x)) := (Upd.refl (fun k => k = g3) w4).set (.inl rfl) _
        have HS5 := Lib.hid (hs4.off hu5 (fun k hk e => by have h1 := HB.out k hk; have h2 := HG.out; have e' : k = g3 := e; omega))
        have H35 := Lib.hid hx5
        have HE5 := Lib.hid (blk_upd hee4 hu5 (fun e => by have := HN.out; have e' : ee = g3 := e; omega))
        have HQ5 := Lib.hid (blk_upd hq4 hu5 (fun e => HNQ.out.1 e))
        have H25 := Lib.hid (blk_upd h24 hu5 (fun e => HG.out.2.2 e))
        have HU5 := Lib.hid (show Upd (two p q) w (w4.setCell ⟨g3, 3, none⟩ (.int .i64 x)) from HU4.out.set (.inr HG.out.2.1) _)
        rw [← hw4]
        clear hw4 hx4 hee4 hq4 h24 hu4 hs4 hset hx5 hu5 he0 hf0
        go_wp2_with fail
        go_roundw
        case rel => exact ⟨4, by omega, rfl, l ++ [x], _, x, HSN, HS5, H35, HE5, HQ5, H25, HU5⟩
        case measure => simp [intOf]
      · have hb3 : ((j : Int) == 3) = false := beq_eq_false_iff_ne.2 (by omega)
        obtain ⟨hc1, ⟨old, hold⟩, -, -, -⟩ := ptr_set (x := 0) H3.out HE.out HQ.out HN.out.2.2.1 (by omega) (by omega)
        rw [hlen] at hc1 hold
        have HLEN := Lib.hid hlen
        have HJ3 := Lib.hid h3
        clear hlen h3 hold
        go_wp2_with fail
        refine (ScNumber_calls wr B p q sj HS.out).mono ?_
        rintro e w3 ⟨rfl, hs3, hu3⟩
        have HN3 := HPQ.out
        have hx3 := blk_upd H3.out hu3 (fun h => by have := HN3 g3 h; have := HG.out; omega)
        have hee3 := blk_upd HE.out hu3 (fun h => by have := HN3 ee h; have := HN.out; omega)
        have hq3 := blk_upd HQ.out hu3 (fun h => by have := HN3 qq h; have := HN.out; omega)
        have h23 := blk_upd H2.out hu3 (fun h => by have := HN3 g2 h; have := HG.out; omega)
        clear HN3
        obtain ⟨x, hx⟩ : ∃ x : Int, x = (sj.number.1 : Int) := ⟨_, rfl⟩
        rw [← hx] at HSN
        rw [← hx]
        obtain ⟨-, ⟨old, hold⟩, hfz, hx5, hee5⟩ := ptr_set (x := x) hx3 hee3 hq3 HN.out.2.2.1 (by rw [HLEN.out]; omega) (by rw [HLEN.out]; exact HJ3.out)
        rw [HLEN.out] at hold hfz hx5 hee5
        have hu5 : Upd (fun k => k = g3) w3 (w3.setCell ⟨g3, j, none⟩ (.int .i64 x)) := (Upd.refl (fun k => k = g3) w3).set (.inl rfl) _
        have HS5 := Lib.hid (hs3.off hu5 (fun k hk e => by have h1 := HB.out k hk; have h2 := HG.out; have e' : k = g3 := e; omega))
        have H35 := Lib.hid hx5
        have HE5 := Lib.hid hee5
        have HQ5 := Lib.hid (blk_upd hq3 hu5 (fun e => HNQ.out.1 e))
        have H25 := Lib.hid (blk_upd h23 hu5 (fun e => HG.out.2.2 e))
        have HU5 := Lib.hid (show Upd (two p q) w (w3.setCell ⟨g3, j, none⟩ (.int .i64 x)) from (HU.out.trans hu3).set (.inr HG.out.2.1) _)
        clear hx3 hee3 hq3 h23 hx5 hee5 hu5 hs3 hu3 hx hc1
        go_wp2_with fail
        go_roundw
        case rel => exact ⟨j + 1, by omega, by go_num, l ++ [x], _, y, HSN, HS5, H35, HE5, HQ5, H25, HU5⟩
        case measure => simp [intOf]; omega
    · obtain rfl : j = 11 := by omega
      have HF := Lib.hid (show rdSeat s = (seatOf l, sj) by unfold rdSeat; rw [rd11_eq, HRD.out])
      have HSM := Lib.hid (setRow_heap wr g2 _ (seatC (seatOf l)) 47 (0, 0) H2.out)
      have hur := setRow_upd wr g2 (seatC (seatOf l))
      have HSU := Lib.hid (HU.out.row (.inr HG.out.1) (seatC (seatOf l)))
      have HS5 := Lib.hid (HS.out.off hur (fun k hk e => by have h1 := HB.out k hk; have h2 := HG.out; have e' : k = g2 := e; omega))
      have z0 : wr.cell? ⟨g3, 0, none⟩ = some (.int .i64 (seatOf l).session) := cell_blk H3.out 0
      have z1 : wr.cell? ⟨g3, 1, none⟩ = some (.int .i64 (seatOf l).seq) := cell_blk H3.out 1
      have z2 : wr.cell? ⟨g3, 2, none⟩ = some (.int .i64 (seatOf l).at_) := cell_blk H3.out 2
      have z3 : wr.cell? ⟨g3, 3, none⟩ = some (.int .i64 (seatOf l).r.err) := cell_blk H3.out 3
      have z4 : wr.cell? ⟨g3, 4, none⟩ = some (.int .i64 (seatOf l).r.session) := cell_blk H3.out 4
      have z5 : wr.cell? ⟨g3, 5, none⟩ = some (.int .i64 (seatOf l).r.gone) := cell_blk H3.out 5
      have z6 : wr.cell? ⟨g3, 6, none⟩ = some (.int .i64 (seatOf l).r.added) := cell_blk H3.out 6
      have z7 : wr.cell? ⟨g3, 7, none⟩ = some (.int .i64 (seatOf l).r.same) := cell_blk H3.out 7
      have z8 : wr.cell? ⟨g3, 8, none⟩ = some (.int .i64 (seatOf l).r.other) := cell_blk H3.out 8
      have z9 : wr.cell? ⟨g3, 9, none⟩ = some (.int .i64 (seatOf l).r.cycle) := cell_blk H3.out 9
      have z10 : wr.cell? ⟨g3, 10, none⟩ = some (.int .i64 (seatOf l).r.full) := cell_blk H3.out 10
      generalize seatOf l = x at *
      clear hur hlen hlt
      go_wp2_with (refine wpList_store_row rfl 47 (.tmp 2) (.tmp 25) rfl g2 (seatC x) rfl rfl 47 _ H2.out sea11 rfl (seatC_one _) ?_)
      (try go_wp2_with fail)
      (try simp only [Exit.inBlock, Exit.then])
      refine bodyPost_ret (results_seat rfl _ _ _ _ _ _ rfl HSM.out) rfl ?_
      rw [HF.out]
      exact ⟨rfl, HS5.out, HSU.out⟩
end Go.Proofs.Ytkedmpppfejofaa
set_option linter.unusedVariables false
set_option linter.unusedSimpArgs false
namespace Go.Proofs.Ytkedmpppfejofaa
open Go.RowKit

def LdOut (w : World) (e : Ending) (w' : World) : Option (List SeatS) → Prop
  | none => e = .returned (.tuple #[.pointer none, .int .i64 83])
  | some L => ∃ p b', w.heap.size ≤ p ∧ w.heap.size ≤ b' ∧ e = .returned (.tuple #[.pointer (some ⟨p, 0, none⟩), .int .i64 0]) ∧ TabS w' p b' L
def LdPost (b : List UInt8) (w : World) (e : Ending) (w' : World) : Prop := ∃ r, LdR b r ∧ LdOut w e w' r ∧ Ext w w'
theorem LdPost.no {b : List UInt8} {w w' : World} (h : ¬ ∃ M, TabOk M ∧ b = imgL M) (hx : Ext w w') : LdPost b w (.returned (.tuple #[.pointer none, .int .i64 83])) w' :=
  ⟨none, ⟨fun _ e => (by cases e), fun _ => h⟩, rfl, hx⟩
theorem LdPost.yes {b : List UInt8} {w w' : World} {p b' : Nat} {L : List SeatS} (h : TabOk L) (he : b = imgL L) (hx : Ext w w') (hp : w.heap.size ≤ p) (hb : w.heap.size ≤ b') (ht : TabS w' p b' L) : LdPost b w (.returned (.tuple #[.pointer (some ⟨p, 0, none⟩), .int .i64 0])) w' :=
  ⟨some L, ⟨fun M e => (by cases e; exact ⟨h, he⟩), fun e => (by cases e)⟩, ⟨p, b', hp, hb, rfl, ht⟩, hx⟩
theorem TabM.putL {w : World} {b : Nat} {L : List SeatS} (h : TabM w b L) (x : SeatS) (hx : I64 x.session) (hl : L.length ≤ 1000000) : ∃ w', (Instr.mapUpdate 52 (.map (some b)) (.int .i64 x.session) (.agg (seatC x))).run Try.prog w = .ok () w' ∧ TabM w' b (putS L x) ∧ Upd (fun k => k = b) w w' := by
  obtain ⟨w', h1, h2, h3⟩ := World.ownsMap.update h keyedI Try.underlying52 (by unfold maxLen; omega) (keyI hx) (seatR_mk x)
  rw [put_encL] at h2
  exact ⟨w', h1, TabM.of h2, ⟨h3.os, h3.tape, h3.output, h3.size, fun k hk hn => h3.block k hk (fun e => hn (Option.some.inj e))⟩⟩
/-- What Load knows behind k seats. -/
structure LdI (b : List UInt8) (n k : Nat) (L : List SeatS) (s : ScS) : Prop where
  len : L.length = k
  rise : Rise L
  ok : ∀ x ∈ L, SeatOk x
  neg : HN b n k L s
  pos : s.e = 0 → b = digs n ++ (imgT L ++ s.rest)
  sok : s.ok
theorem LdI.zero (b : List UInt8) : LdI b (ScS.number ⟨b, 0, 0⟩).1 0 [] (ScS.number ⟨b, 0, 0⟩).2 :=
  ⟨rfl, by simp [Rise], (fun x hx => by simp at hx), HN_zero b, fun he => by
    have h := numC (s := ⟨b, 0, 0⟩) (Nat.zero_le _) he
    exact h.2, (ScS.ok_number (s := ⟨b, 0, 0⟩) ⟨Nat.zero_le _, Nat.zero_le _⟩).1⟩
section
variable {b : List UInt8} {n k : Nat} {L : List SeatS} {s : ScS}
theorem LdI.next (h : LdI b n k L s) (hk : k < n) (hg : SeatOk (rdSeat s).1) (hr : Rise (L ++ [(rdSeat s).1])) : LdI b n (k + 1) (L ++ [(rdSeat s).1]) (rdSeat s).2 :=
  ⟨by rw [List.length_append, h.len]; rfl, hr, fun x hx => by
    rcases List.mem_append.1 hx with h1 | h1
    · exact h.ok x h1
    · rw [List.mem_singleton.1 h1]; exact hg, h.neg.next hk, fun he => by
    obtain ⟨h1, h2⟩ := rdSeat_form h.sok.1 he
    rw [h.pos h1, h2, imgT_snoc, List.append_assoc], rdSeat_ok h.sok⟩
theorem LdI.few (h : LdI b n k L s) (he : s.e = 0) (hb : b.length ≤ 65536) : L.length ≤ 65536 := by
  have h1 := imgT_min L (fun x hx => (h.ok x hx).i)
  have h2 := congrArg List.length (h.pos he)
  rw [List.length_append, List.length_append] at h2
  omega
theorem LdI.yes (h : LdI b n k L s) (hk : k = n) (he : s.end_.e = 0) (h8 : n ≤ 8) : TabOk L ∧ b = imgL L := by
  obtain ⟨h1, h2⟩ := end_zero he h.sok.1
  have h3 := h.pos h1
  rw [h2, List.append_nil] at h3
  refine ⟨⟨h.rise, by rw [h.len]; omega, h.ok⟩, ?_⟩
  unfold imgL
  rw [h.len, hk]
  exact h3
theorem LdI.no (h : LdI b n k L s) (hk : s.e = 0 → k = n) (hbad : s.end_.e ≠ 0 ∨ 8 < n) : ¬ ∃ M, TabOk M ∧ b = imgL M := by
  rintro ⟨M, hM, e⟩
  obtain ⟨h1, h2, h3⟩ := h.neg M hM e
  have h4 := hk h3.e
  have h5 := hM.len
  rw [List.drop_of_length_le (by omega)] at h3
  rcases hbad with h6 | h6
  · exact h6 (St.end_ h3)
  · omega
end
set_option maxRecDepth 100000 in
set_option maxHeartbeats 8000000 in
theorem Load_calls (w : World) (S : Nat → Prop) (v : Value) (b : List UInt8) (hr : Rs kByte w S v b) (hb : b.length ≤ 65536) : Calls Try.prog 29 #[v] w (LdPost b w) := by
  have HR := Lib.hid hr
  have HBL := Lib.hid hb
  obtain ⟨A, c, rfl, -⟩ := hr
  clear hb
  go_enter Try.func29, Try.ntmps29
  go_wp2_with fail
  refine (Over_calls w S _ b HR.out).mono ?_
  rintro e w1 ⟨p, q, rfl, hs, hx⟩
  have HS1 := Lib.hid (hs.toB (B' := fun k => w.heap.size ≤ k ∧ k < w1.heap.size) (fun k h1 h2 => ⟨h1, h2⟩))
  have HX1 := Lib.hid hx
  clear hs hx
  go_wp2_with fail
  refine (ScNumber_calls w1 _ p q _ HS1.out).mono ?_
  rintro e w2 ⟨rfl, hs, hu⟩
  have HS2 := Lib.hid hs
  have HX2 := Lib.hid (hu.ext HX1.out (fun k hk => (HS1.out.inB k hk).1))
  have HLE := Lib.hid hu.le
  have HLD := Lib.hid (LdI.zero b)
  have hn63 := (ScS.ok_number (s := ⟨b, 0, 0⟩) ⟨Nat.zero_le _, Nat.zero_le _⟩).2
  generalize (ScS.number ⟨b, 0, 0⟩).1 = n at *
  generalize (ScS.number ⟨b, 0, 0⟩).2 = s0 at *
  clear hs hu HS1
  go_wp2_with fail
  refine (SNew_calls w2).mono ?_
  rintro e w3 ⟨pt, bt, hp, hbt, rfl, ht, hx⟩
  have HT3 := Lib.hid ht
  have HX3 := Lib.hid (HX2.out.trans hx)
  have HS3 := Lib.hid (HS2.out.ext hx)
  have HPB := Lib.hid (show w1.heap.size ≤ pt ∧ w1.heap.size ≤ bt ∧ w.heap.size ≤ pt ∧ w.heap.size ≤ bt from by
    have h1 := HLE.out; have h2 := HX1.out.le
    exact ⟨by omega, by omega, by omega, by omega⟩)
  clear hp hbt ht hx HS2 HX2
  go_wp2_with fail
  go_loopw [7, 8] (fun la i wr => ∃ (k : Nat) (L : List SeatS) (s : ScS), k ≤ n ∧ i = .int .i64 k ∧ la = .int .i64 (lastS L) ∧ Hid (TabS wr pt bt L) ∧ Hid (Sc wr (fun k => w.heap.size ≤ k ∧ k < w1.heap.size) p q s) ∧ Hid (LdI b n k L s) ∧ Hid (Ext w wr)) (fun _ i _ => n - (intOf i).toNat)
  case atStart => exact ⟨0, [], s0, Nat.zero_le _, rfl, rfl, HT3, HS3, HLD, HX3⟩
  case round =>
    clear HT3 HS3 HLD HX3
    obtain ⟨k, L, s, hk, rfl, rfl, HT, HS, HLD, HX⟩ := hrel
    have hend : (s.e = 0 → k = n) → Hid (s.e = 0 → k = n) := Lib.hid
    by_cases hgo : k < n ∧ s.e = 0
    · obtain ⟨hlt, he0⟩ := hgo
      have hqe : ((s.e : Int) == 0) = true := by rw [he0]; rfl
      have HE0 := Lib.hid he0
      clear hend he0
      go_wp2_with fail
      refine (Err_calls wr _ p q s HS.out).mono ?_
      rintro e w' ⟨rfl, rfl⟩
      go_wp2_with fail
      refine (seat_calls wr _ p q s HS.out (fun j hj => by have h1 := HX.out.le; have h2 := HT.out.2.1.lt; have h3 := HPB.out; omega)).mono ?_
      have HNX := Lib.hid (fun h1 h2 => HLD.out.next hlt h1 h2)
      have HNO := Lib.hid (fun h => HLD.out.neg.no hlt h)
      have HNN := Lib.hid (rdSeat_nums HLD.out.sok)
      have HFW := Lib.hid (HLD.out.few HE0.out HBL.out)
      have HRI := Lib.hid HLD.out.rise
      generalize (rdSeat s).1 = x at *
      generalize (rdSeat s).2 = s' at *
      rintro e w4 ⟨rfl, hs, hu⟩
      have hsq0 : 0 ≤ x.seq := (HNN.out x.seq (by simp [SeatS.nums])).1
      have hse0 : 0 ≤ x.session ∧ x.session < 9223372036854775808 := HNN.out x.session (by simp [SeatS.nums])
      have HX4 := Lib.hid (hu.ext HX.out (fun j hj => (HS.out.inB j hj).1))
      have HT4 := Lib.hid (HT.out.oth hu (fun h => by have h1 := (HS.out.inB _ h).2; have h2 := HPB.out; omega) (fun h => by have h1 := (HS.out.inB _ h).2; have h2 := HPB.out; omega))
      have HS4 := Lib.hid hs
      clear hs hu hqe HT HS HX HLD HE0 HNN
      dsimp only [seatC]
      go_upto_region 9 with fail
      obtain ⟨w5, hw5⟩ : ∃ w5, w5 = w4.alloc (.cells (seatC x) 47) := ⟨_, rfl⟩
      obtain ⟨g, hg⟩ : ∃ g, g = w4.heap.size := ⟨_, rfl⟩
      have hx5 : Ext w4 w5 := by rw [hw5]; exact (Ext.refl _).alloc _
      have HX5 := Lib.hid (HX4.out.trans hx5)
      have HT5 := Lib.hid (HT4.out.ext hx5)
      have HS5 := Lib.hid (HS4.out.ext hx5)
      have HD5 := Lib.hid (show w5.heap[g]? = some (.cells (seatC x) 47 (0, 0)) by rw [hw5]; exact heap_new w4 g hg.symm _)
      have HGB := Lib.hid (show ¬ g = bt from by have := HT4.out.2.1.lt; omega)
      unfold seatC at hw5
      rw [← hw5, ← hg]
      clear hw5 hg hx5 HX4 HT4 HS4
      have x0 : w5.cell? ⟨g, 0, none⟩ = some (.int .i64 x.session) := cell_blk HD5.out 0
      have x1 : w5.cell? ⟨g, 1, none⟩ = some (.int .i64 x.seq) := cell_blk HD5.out 1
      have x2 : w5.cell? ⟨g, 2, none⟩ = some (.int .i64 x.at_) := cell_blk HD5.out 2
      go_wp2_with fail
      refine (Err_calls w5 _ p q s' HS5.out).mono ?_
      rintro e w' ⟨rfl, rfl⟩
      by_cases he : s'.e = 0
      · have hqe : ((s'.e : Int) != 0) = false := by rw [he]; rfl
        have HE := Lib.hid he
        clear he
        by_cases hla : x.session ≤ lastS L
        · have HF := Lib.hid (HNO.out (fun h => by have := snoc_last h.2.2 (idxF_iff.1 h.1.session).1; omega))
          clear HNO
          go_wp2_with fail
          go_ret2
          exact LdPost.no HF.out HX5.out
        · have hla' : lastS L < x.session := by omega
          clear hla
          go_wp2_with fail
          refine (index_calls w5 x.session).mono ?_
          rintro e w' ⟨rfl, rfl⟩
          cases hi1 : idxF x.session
          · have HF := Lib.hid (HNO.out (fun h => by have h2 := h.1.session; rw [hi1] at h2; cases h2))
            clear HNO
            go_wp2_with fail
            go_ret2
            exact LdPost.no HF.out HX5.out
          · go_wp2_with fail
            refine (index_calls w5 x.at_).mono ?_
            rintro e w' ⟨rfl, rfl⟩
            cases hi2 : idxF x.at_
            · have HF := Lib.hid (HNO.out (fun h => by have h2 := h.1.at_; rw [hi2] at h2; cases h2))
              clear HNO
              go_wp2_with fail
              go_ret2
              exact LdPost.no HF.out HX5.out
            · by_cases hsq : 1099511627776 < x.seq
              · have HF := Lib.hid (HNO.out (fun h => by have := h.1.seq.2; omega))
                clear HNO
                go_wp2_with fail
                go_ret2
                exact LdPost.no HF.out HX5.out
              · obtain ⟨x3, x4, x5, x6, x7, x8, x9, x10⟩ : w5.cell? ⟨g, 3, none⟩ = some (.int .i64 x.r.err) ∧ w5.cell? ⟨g, 4, none⟩ = some (.int .i64 x.r.session) ∧ w5.cell? ⟨g, 5, none⟩ = some (.int .i64 x.r.gone) ∧ w5.cell? ⟨g, 6, none⟩ = some (.int .i64 x.r.added) ∧ w5.cell? ⟨g, 7, none⟩ = some (.int .i64 x.r.same) ∧ w5.cell? ⟨g, 8, none⟩ = some (.int .i64 x.r.other) ∧ w5.cell? ⟨g, 9, none⟩ = some (.int .i64 x.r.cycle) ∧ w5.cell? ⟨g, 10, none⟩ = some (.int .i64 x.r.full) :=
                  ⟨cell_blk HD5.out 3, cell_blk HD5.out 4, cell_blk HD5.out 5, cell_blk HD5.out 6, cell_blk HD5.out 7, cell_blk HD5.out 8, cell_blk HD5.out 9, cell_blk HD5.out 10⟩
                go_wp2_with fail
                refine (SCheck_calls w5 x.r).mono ?_
                unfold chk8E
                cases hc : chkR8 x.r
                · simp only [Bool.false_eq_true, if_false]
                  rintro e w6 ⟨rfl, hx6⟩
                  have HX6 := Lib.hid (HX5.out.trans hx6)
                  have HF := Lib.hid (HNO.out (fun h => by have h2 := h.1.r; rw [hc] at h2; cases h2))
                  clear HNO hx6 hc x0 x1 x2 x3 x4 x5 x6 x7 x8 x9 x10
                  go_wp2_with fail
                  go_ret2
                  exact LdPost.no HF.out HX6.out
                · simp only [if_true]
                  rintro e w6 ⟨rfl, hx6⟩
                  have HSO : SeatOk x := ⟨hi1, hi2, ⟨hsq0, by omega⟩, hc⟩
                  have HRS := Lib.hid (rise_snoc HRI.out hla')
                  have HLD6 := Lib.hid (HNX.out HSO HRS.out)
                  have HX6 := Lib.hid (HX5.out.trans hx6)
                  have HT6 := Lib.hid (HT5.out.ext hx6)
                  have HS6 := Lib.hid (HS5.out.ext hx6)
                  have HD6 := Lib.hid (blk_ext HD5.out hx6)
                  have HPE := Lib.hid (putS_end HRS.out)
                  have HLS := Lib.hid (lastS_snoc L x)
                  clear hx6 hc hi1 hi2 HSO x0 x1 x2 x3 x4 x5 x6 x7 x8 x9 x10 HX5 HT5 HS5 HD5 HNO HNX hqe
                  have x0 : w6.cell? ⟨g, 0, none⟩ = some (.int .i64 x.session) := cell_blk HD6.out 0
                  go_upto_region 12 with fail
                  obtain ⟨w8, hw8⟩ : ∃ w8, w8 = w6.drew := ⟨_, rfl⟩
                  have hx8 : Ext w6 w8 := by rw [hw8]; exact (Ext.refl _).drew
                  have HT8 := Lib.hid (HT6.out.ext hx8)
                  have HD8 := Lib.hid (blk_ext HD6.out hx8)
                  have HX8 := Lib.hid (HX6.out.trans hx8)
                  have HS8 := Lib.hid (HS6.out.ext hx8)
                  obtain ⟨w9, hup, hm9, hu9⟩ := HT8.out.2.1.putL x ⟨by omega, by omega⟩ (by have := HFW.out; omega)
                  rw [HPE.out] at hm9
                  have HT9 := Lib.hid (show TabS w9 pt bt (L ++ [x]) from HT8.out.upd hm9 hu9)
                  have HD9 := Lib.hid (blk_upd HD8.out hu9 HGB.out)
                  have HX9 := Lib.hid (hu9.ext HX8.out (fun j hj => by rw [hj]; exact HPB.out.2.2.2))
                  have HS9 := Lib.hid (HS8.out.off hu9 (fun j hj e => by have e' : j = bt := e; have h2 := HPB.out; omega))
                  simp only [seatC] at hup
                  have HS0 := Lib.hid (show ∀ W : World, W.heap[pt]? = some (.cells #[.map (some bt)] 54 (0, 0)) → W.heap[g]? = some (.cells (seatC x) 47 (0, 0)) → W.cell? ⟨pt, 0, none⟩ = some (.map (some bt)) ∧ W.cell? ⟨g, 0, none⟩ = some (.int .i64 x.session) ∧ W.cell? ⟨g, 1, none⟩ = some (.int .i64 x.seq) ∧ W.cell? ⟨g, 2, none⟩ = some (.int .i64 x.at_) ∧ W.cell? ⟨g, 3, none⟩ = some (.int .i64 x.r.err) ∧ W.cell? ⟨g, 4, none⟩ = some (.int .i64 x.r.session) ∧ W.cell? ⟨g, 5, none⟩ = some (.int .i64 x.r.gone) ∧ W.cell? ⟨g, 6, none⟩ = some (.int .i64 x.r.added) ∧ W.cell? ⟨g, 7, none⟩ = some (.int .i64 x.r.same) ∧ W.cell? ⟨g, 8, none⟩ = some (.int .i64 x.r.other) ∧ W.cell? ⟨g, 9, none⟩ = some (.int .i64 x.r.cycle) ∧ W.cell? ⟨g, 10, none⟩ = some (.int .i64 x.r.full) from fun W h1 h2 => ⟨cell_blk h1 0, cell_blk h2 0, cell_blk h2 1, cell_blk h2 2, cell_blk h2 3, cell_blk h2 4, cell_blk h2 5, cell_blk h2 6, cell_blk h2 7, cell_blk h2 8, cell_blk h2 9, cell_blk h2 10⟩)
                  clear hx8 hm9 hu9 x0 HX6 HT6 HS6 HD6
                  refine wpF_region (fun W => W.cell? ⟨pt, 0, none⟩ = some (.map (some bt)) ∧ W.cell? ⟨g, 0, none⟩ = some (.int .i64 x.session) ∧ W.cell? ⟨g, 1, none⟩ = some (.int .i64 x.seq) ∧ W.cell? ⟨g, 2, none⟩ = some (.int .i64 x.at_) ∧ W.cell? ⟨g, 3, none⟩ = some (.int .i64 x.r.err) ∧ W.cell? ⟨g, 4, none⟩ = some (.int .i64 x.r.session) ∧ W.cell? ⟨g, 5, none⟩ = some (.int .i64 x.r.gone) ∧ W.cell? ⟨g, 6, none⟩ = some (.int .i64 x.r.added) ∧ W.cell? ⟨g, 7, none⟩ = some (.int .i64 x.r.same) ∧ W.cell? ⟨g, 8, none⟩ = some (.int .i64 x.r.other) ∧ W.cell? ⟨g, 9, none⟩ = some (.int .i64 x.r.cycle) ∧ W.cell? ⟨g, 10, none⟩ = some (.int .i64 x.r.full)) (fun _ => True) 99 7 (by kernel_rfl) (by kernel_rfl) ?_
                  rw [← hw8]
                  clear hw8
                  refine wpF_take0 (i := 0) (v := ?v1) rfl (by kernel_rfl) (by kernel_rfl) (by kernel_rfl) (fun _ _ _ h => h) (by kernel_rfl) (Or.inl ⟨by rfl, ?hy1⟩) (HS0.out _ HT8.out.1 HD8.out) (gone (by kernel_rfl)) ?rest1
                  case hy1 => (intro W hSW; (try dsimp only at hSW); go_simp; (try with_reducible rfl))
                  (try simp only [Act.put, List.setIfInBounds_toArray, List.set_cons_zero, List.set_cons_succ])
                  refine wpF_take0 (i := 1) (v := ?v2) rfl (by kernel_rfl) (by kernel_rfl) (by kernel_rfl) (fun _ _ _ h => h) (by kernel_rfl) (Or.inl ⟨by rfl, ?hy2⟩) (HS0.out _ HT8.out.1 HD8.out) (gone (by kernel_rfl)) ?rest2
                  case hy2 => (intro W hSW; (try dsimp only at hSW); go_simp; (try with_reducible rfl))
                  (try simp only [Act.put, List.setIfInBounds_toArray, List.set_cons_zero, List.set_cons_succ])
                  refine wpF_take0 (i := 2) (v := ?v3) rfl (by kernel_rfl) (by kernel_rfl) (by kernel_rfl) (fun _ _ _ h => h) (by kernel_rfl) (Or.inl ⟨by rfl, ?hy3⟩) (HS0.out _ HT8.out.1 HD8.out) (gone (by kernel_rfl)) ?rest3
                  case hy3 => (intro W hSW; (try dsimp only at hSW); go_simp; (try with_reducible rfl))
                  (try simp only [Act.put, List.setIfInBounds_toArray, List.set_cons_zero, List.set_cons_succ])
                  refine wpF_take0 (i := 3) (v := ?v4) rfl (by kernel_rfl) (by kernel_rfl) (by kernel_rfl) (fun _ _ _ h => h) (by kernel_rfl) (Or.inl ⟨by rfl, ?hy4⟩) (HS0.out _ HT8.out.1 HD8.out) (gone (by kernel_rfl)) ?rest4
                  case hy4 => (intro W hSW; (try dsimp only at hSW); go_simp; (try with_reducible rfl))
                  (try simp only [Act.put, List.setIfInBounds_toArray, List.set_cons_zero, List.set_cons_succ])
                  refine wpF_take0 (i := 4) (v := ?v5) rfl (by kernel_rfl) (by kernel_rfl) (by kernel_rfl) (fun _ _ _ h => h) (by kernel_rfl) (Or.inl ⟨by rfl, ?hy5⟩) (HS0.out _ HT8.out.1 HD8.out) (gone (by kernel_rfl)) ?rest5
                  case hy5 => (intro W hSW; (try dsimp only at hSW); go_simp; (try with_reducible rfl))
                  (try simp only [Act.put, List.setIfInBounds_toArray, List.set_cons_zero, List.set_cons_succ])
                  refine wpF_take0 (i := 5) (v := ?v6) rfl (by kernel_rfl) (by kernel_rfl) (by kernel_rfl) (fun _ _ _ h => h) (by kernel_rfl) (Or.inl ⟨by rfl, ?hy6⟩) (HS0.out _ HT8.out.1 HD8.out) (gone (by kernel_rfl)) ?rest6
                  case hy6 => (intro W hSW; (try dsimp only at hSW); go_simp; (try with_reducible rfl))
                  (try simp only [Act.put, List.setIfInBounds_toArray, List.set_cons_zero, List.set_cons_succ])
                  refine wpF_step (i := 6) (by kernel_rfl) rfl (fun K hK => ?_)
                  go_simp
                  refine hK.out _ _ (HS0.out _ HT9.out.1 HD9.out) (gone (by kernel_rfl)) ?_
                  clear hK K
                  (try simp only [Act.put, List.setIfInBounds_toArray, List.set_cons_zero, List.set_cons_succ])
                  refine wpF_done (by kernel_rfl) ?_ _
                  refine NoPanic.normal ?_
                  go_wp2_with fail
                  go_roundw
                  case rel => exact ⟨k + 1, L ++ [x], s', by omega, by go_num, by rw [HLS.out], HT9, HS9, HLD6, HX9⟩
                  case measure => simp [intOf]; omega
      · have hqe : ((s'.e : Int) != 0) = true := by rw [bne_iff_ne]; omega
        have HF := Lib.hid (HNO.out (fun h => he h.2.1))
        clear HNO he
        go_wp2_with fail
        go_ret2
        exact LdPost.no HF.out HX5.out
    · have HEND := Lib.hid (show s.e = 0 → k = n from fun he => by
        rcases Nat.lt_or_ge k n with h1 | h1
        · exact absurd ⟨h1, he⟩ hgo
        · omega)
      clear hend
      by_cases hlt : k < n
      · have hqe : ((s.e : Int) == 0) = false := by
          rw [beq_eq_false_iff_ne]
          intro h
          have : s.e = 0 := by omega
          have := HEND.out this
          omega
        clear hgo
        go_wp2_with fail
        refine (Err_calls wr _ p q s HS.out).mono ?_
        rintro e w' ⟨rfl, rfl⟩
        go_wp2_with fail
        refine (ScEnd_calls wr _ p q s HS.out).mono ?_
        rintro e w4 ⟨rfl, -, hu⟩
        have HX4 := Lib.hid (hu.ext HX.out (fun j hj => (HS.out.inB j hj).1))
        have HT4 := Lib.hid (HT.out.oth hu (fun h => by have h1 := (HS.out.inB _ h).2; have h2 := HPB.out; omega) (fun h => by have h1 := (HS.out.inB _ h).2; have h2 := HPB.out; omega))
        clear hu
        by_cases he : s.end_.e = 0
        · have hqe2 : ((s.end_.e : Int) != 0) = false := by rw [he]; rfl
          by_cases h8 : 8 < n
          · have HF := Lib.hid (HLD.out.no HEND.out (.inr h8))
            have h8' : (8 : Int) < (n : Int) := by omega
            clear he h8
            go_wp2_with fail
            go_ret2
            exact LdPost.no HF.out HX4.out
          · have hkn : k = n := HEND.out (end_zero he HLD.out.sok.1).1
            obtain ⟨hok, himg⟩ := HLD.out.yes hkn he (by omega)
            have HOK := Lib.hid hok
            have HIM := Lib.hid himg
            have h8' : (n : Int) ≤ 8 := by omega
            clear he h8 hkn hok himg
            go_wp2_with fail
            go_ret2
            exact LdPost.yes HOK.out HIM.out HX4.out HPB.out.2.2.1 HPB.out.2.2.2 HT4.out
        · have hqe2 : ((s.end_.e : Int) != 0) = true := by rw [bne_iff_ne]; omega
          have HF := Lib.hid (HLD.out.no HEND.out (.inl he))
          clear he
          go_wp2_with fail
          go_ret2
          exact LdPost.no HF.out HX4.out
      · clear hgo
        go_wp2_with fail
        refine (ScEnd_calls wr _ p q s HS.out).mono ?_
        rintro e w4 ⟨rfl, -, hu⟩
        have HX4 := Lib.hid (hu.ext HX.out (fun j hj => (HS.out.inB j hj).1))
        have HT4 := Lib.hid (HT.out.oth hu (fun h => by have h1 := (HS.out.inB _ h).2; have h2 := HPB.out; omega) (fun h => by have h1 := (HS.out.inB _ h).2; have h2 := HPB.out; omega))
        clear hu
        by_cases he : s.end_.e = 0
        · have hqe2 : ((s.end_.e : Int) != 0) = false := by rw [he]; rfl
          by_cases h8 : 8 < n
          · have HF := Lib.hid (HLD.out.no HEND.out (.inr h8))
            have h8' : (8 : Int) < (n : Int) := by omega
            clear he h8
            go_wp2_with fail
            go_ret2
            exact LdPost.no HF.out HX4.out
          · have hkn : k = n := HEND.out (end_zero he HLD.out.sok.1).1
            obtain ⟨hok, himg⟩ := HLD.out.yes hkn he (by omega)
            have HOK := Lib.hid hok
            have HIM := Lib.hid himg
            have h8' : (n : Int) ≤ 8 := by omega
            clear he h8 hkn hok himg
            go_wp2_with fail
            go_ret2
            exact LdPost.yes HOK.out HIM.out HX4.out HPB.out.2.2.1 HPB.out.2.2.2 HT4.out
        · have hqe2 : ((s.end_.e : Int) != 0) = true := by rw [bne_iff_ne]; omega
          have HF := Lib.hid (HLD.out.no HEND.out (.inl he))
          clear he
          go_wp2_with fail
          go_ret2
          exact LdPost.no HF.out HX4.out
end Go.Proofs.Ytkedmpppfejofaa
