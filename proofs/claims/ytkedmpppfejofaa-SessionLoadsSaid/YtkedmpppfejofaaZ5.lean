/-
  Texts of this claim, put together: SesPlain, SesPlay, SesOnceP, SessionOnce.
-/
import Derived.Test.YtkedmpppfejofaaZ4
import Derived.Deep.DeepCutAuto
set_option linter.unusedVariables false
set_option linter.unusedSimpArgs false
namespace Go.Proofs.Ytkedmpppfejofaa
open Go.RowKit

theorem mem_insS {x s : SeatS} : ∀ {L : List SeatS}, s ∈ insS x L ↔ s = x ∨ s ∈ L
  | [] => by simp [insS]
  | y :: l => by
    unfold insS
    split
    · simp
    · rw [List.mem_cons, mem_insS, List.mem_cons]
      constructor
      · rintro (h | h | h)
        · exact .inr (.inl h)
        · exact .inl h
        · exact .inr (.inr h)
      · rintro (h | h | h)
        · exact .inr (.inl h)
        · exact .inl h
        · exact .inr (.inr h)
theorem mem_putS {L : List SeatS} {x s : SeatS} : s ∈ putS L x ↔ s = x ∨ (s ∈ L ∧ s.session ≠ x.session) := by
  unfold putS
  rw [mem_insS, List.mem_filter]
  simp
theorem rise_insS {x : SeatS} : ∀ {L : List SeatS}, Rise L → (∀ s ∈ L, s.session ≠ x.session) → Rise (insS x L)
  | [], _, _ => by simp [insS, Rise]
  | y :: l, hr, hn => by
    unfold Rise at hr
    rw [List.pairwise_cons] at hr
    unfold insS
    split
    · rename_i h
      unfold Rise
      rw [List.pairwise_cons, List.pairwise_cons]
      refine ⟨fun s hs => ?_, hr⟩
      rcases List.mem_cons.1 hs with rfl | hs
      · exact h
      · have := hr.1 s hs; omega
    · rename_i h
      unfold Rise
      rw [List.pairwise_cons]
      refine ⟨fun s hs => ?_, rise_insS hr.2 (fun s hs => hn s (List.mem_cons_of_mem _ hs))⟩
      rcases mem_insS.1 hs with rfl | hs
      · have := hn y (List.mem_cons_self ..); omega
      · exact hr.1 s hs
theorem rise_filter {L : List SeatS} (h : Rise L) (p : SeatS → Bool) : Rise (L.filter p) := List.Pairwise.filter p h
theorem rise_putS {L : List SeatS} (h : Rise L) (x : SeatS) : Rise (putS L x) :=
  rise_insS (rise_filter h _) fun s hs => by have := (List.mem_filter.1 hs).2; simpa using this
theorem find_iff {L : List SeatS} (hr : Rise L) {n : Int} {s : SeatS} : findS L n = some s ↔ s ∈ L ∧ s.session = n := by
  constructor
  · intro h
    exact ⟨List.mem_of_find?_eq_some h, findS_session h⟩
  · rintro ⟨h, rfl⟩
    obtain ⟨k, hk, rfl⟩ := List.getElem_of_mem h
    exact find_rise hr hk
theorem find_none {L : List SeatS} {n : Int} : findS L n = none ↔ ∀ s ∈ L, s.session ≠ n := by
  unfold findS
  rw [List.find?_eq_none]
  simp
theorem find_putS {L : List SeatS} (hr : Rise L) (x : SeatS) (n : Int) : findS (putS L x) n = if n = x.session then some x else findS L n := by
  split
  · rename_i h
    rw [find_iff (rise_putS hr x)]
    exact ⟨mem_putS.2 (.inl rfl), h.symm⟩
  · rename_i h
    rcases hf : findS L n with _ | s
    · rw [find_none]
      intro s hs
      rcases mem_putS.1 hs with rfl | hs
      · exact fun e => h e.symm
      · exact find_none.1 hf s hs.1
    · rw [find_iff (rise_putS hr x)]
      obtain ⟨h1, h2⟩ := (find_iff hr).1 hf
      exact ⟨mem_putS.2 (.inr ⟨h1, by rw [h2]; exact h⟩), h2⟩
theorem len_putS_new {L : List SeatS} {x : SeatS} (h : findS L x.session = none) : (putS L x).length = L.length + 1 := by
  unfold putS
  rw [insS_len, List.filter_eq_self.2]
  intro s hs
  simpa using find_none.1 h s hs
theorem len_putS_old {L : List SeatS} {x s : SeatS} (h : findS L x.session = some s) : (putS L x).length ≤ L.length := by
  unfold putS
  rw [insS_len]
  have h1 := List.mem_of_find?_eq_some h
  have h2 := findS_session h
  have : (L.filter fun s => decide (s.session ≠ x.session)).length < L.length := by
    rcases Nat.lt_or_ge (L.filter fun s => decide (s.session ≠ x.session)).length L.length with h3 | h3
    · exact h3
    · have h4 := List.length_filter_eq_length_iff.1 (Nat.le_antisymm (List.length_filter_le _ _) h3) s h1
      simp [h2] at h4
  omega

structure SeatOk (s : SeatS) : Prop where
  session : idxF s.session = true
  at_ : idxF s.at_ = true
  seq : 0 ≤ s.seq ∧ s.seq ≤ 1099511627776
  r : chkR8 s.r = true
structure TabOk (L : List SeatS) : Prop where
  rise : Rise L
  len : L.length ≤ 8
  ok : ∀ s ∈ L, SeatOk s
theorem idxF_iff {n : Int} : idxF n = true ↔ 1 ≤ n ∧ n ≤ 1099511627776 := by simp [idxF]
theorem chkR8_iff {r : ReplyS} : chkR8 r = true ↔ ∀ n ∈ r.nums, 0 ≤ n ∧ n ≤ 1099511627776 := by
  unfold chkR8
  rw [List.all_eq_true]
  simp [inF]
theorem ReplyI.of_chk {r : ReplyS} (h : chkR8 r = true) : ReplyI r := by
  have h := chkR8_iff.1 h
  have g : ∀ n ∈ r.nums, I64 n := fun n hn => by have := h n hn; exact ⟨by omega, by omega⟩
  unfold ReplyS.nums at g
  simp only [List.mem_cons, List.not_mem_nil, or_false, forall_eq_or_imp, forall_eq] at g
  obtain ⟨h0, h1, h2, h3, h4, h5, h6, h7⟩ := g
  exact ⟨h0, h1, h2, h3, h4, h5, h6, h7⟩
theorem SeatOk.i {s : SeatS} (h : SeatOk s) : SeatI s := by
  have h1 := idxF_iff.1 h.session
  have h2 := idxF_iff.1 h.at_
  have h3 := h.seq
  exact ⟨⟨by omega, by omega⟩, ⟨by omega, by omega⟩, ⟨by omega, by omega⟩, .of_chk h.r⟩
theorem chk_zeroR : chkR8 zeroR = true := by decide
theorem TabOk.nil : TabOk [] := ⟨by simp [Rise], by simp, by simp⟩
theorem TabOk.len1 {L : List SeatS} (h : TabOk L) : L.length ≤ 1000 := by have := h.len; omega
theorem TabOk.i {L : List SeatS} (h : TabOk L) : ∀ s ∈ L, SeatI s := fun s hs => (h.ok s hs).i
theorem TabOk.put {L : List SeatS} (h : TabOk L) {x : SeatS} (hx : SeatOk x) (hl : (putS L x).length ≤ 8) : TabOk (putS L x) :=
  ⟨rise_putS h.rise x, hl, fun s hs => by
    rcases mem_putS.1 hs with rfl | hs
    · exact hx
    · exact h.ok s hs.1⟩
theorem TabOk.open_ {L : List SeatS} (h : TabOk L) (n : Int) : TabOk (openS L n).1 := by
  unfold openS
  split
  · exact h
  · rename_i h1
    split
    · exact h
    · rename_i h2
      have h3 : findS L n = none := by
        rcases hf : findS L n with _ | s
        · rfl
        · exact absurd (.inr (by rw [hf]; rfl)) h1
      have h4 : idxF n = true := by
        cases hi : idxF n
        · exact absurd (.inl hi) h1
        · rfl
      refine h.put ⟨h4, h4, ⟨Int.le_refl 0, by show (0 : Int) ≤ _; omega⟩, chk_zeroR⟩ ?_
      rw [len_putS_new h3]
      omega
theorem askS_none {L : List SeatS} {n q : Int} (h : findS L n = none) : askS L n q = (zeroR, false, 80) := by unfold askS; rw [h]
theorem askS_some {L : List SeatS} {n q : Int} {s : SeatS} (h : findS L n = some s) : askS L n q = if q < s.seq ∨ q < 1 then (zeroR, false, 81) else if q = s.seq then (s.r, true, 0) else if s.seq < q - 1 then (zeroR, false, 82) else (zeroR, false, 0) := by unfold askS; rw [h]
/-- What is kept is the next number of a session that is there. -/
theorem keepS_iff {L : List SeatS} {n q at0 : Int} {r : ReplyS} (h : (keepS L n q at0 r).2 = 0) : ∃ s, findS L n = some s ∧ q = s.seq + 1 ∧ 1 ≤ q ∧ idxF at0 = true ∧ chkR8 r = true ∧ q ≤ 1099511627776 ∧ (keepS L n q at0 r).1 = putS L ⟨n, q, at0, r⟩ := by
  unfold keepS at h ⊢
  rcases hf : findS L n with _ | s
  · rw [askS_none hf] at h; simp at h
  · rw [askS_some hf] at h ⊢
    by_cases h1 : q < s.seq ∨ q < 1
    · rw [if_pos h1] at h; simp at h
    · rw [if_neg h1] at h ⊢
      by_cases h2 : q = s.seq
      · rw [if_pos h2] at h; simp at h
      · rw [if_neg h2] at h ⊢
        by_cases h3 : s.seq < q - 1
        · rw [if_pos h3] at h; simp at h
        · rw [if_neg h3] at h ⊢
          simp only [ne_eq, not_true_eq_false, if_false, Bool.false_eq_true] at h ⊢
          by_cases h4 : idxF at0 = false ∨ chkR8 r = false ∨ 1099511627776 < q
          · rw [if_pos h4] at h; simp at h
          · rw [if_neg h4] at h ⊢
            refine ⟨s, rfl, by omega, by omega, ?_, ?_, by omega, rfl⟩
            · cases hi : idxF at0
              · exact absurd (.inl hi) h4
              · rfl
            · cases hi : chkR8 r
              · exact absurd (.inr (.inl hi)) h4
              · rfl
theorem keepS_same {L : List SeatS} {n q at0 : Int} {r : ReplyS} (h : (keepS L n q at0 r).2 ≠ 0) : (keepS L n q at0 r).1 = L := by
  unfold keepS at h ⊢
  split
  · rfl
  · split
    · rfl
    · split
      · rfl
      · rename_i h1 h2 h3
        rw [if_neg h1, if_neg h2, if_neg h3] at h
        exact absurd rfl h
theorem TabOk.keep {L : List SeatS} (h : TabOk L) (n q at0 : Int) (r : ReplyS) : TabOk (keepS L n q at0 r).1 := by
  by_cases he : (keepS L n q at0 r).2 = 0
  · obtain ⟨s, hf, h1, h2, h3, h4, h5, e⟩ := keepS_iff he
    rw [e]
    have hs := (h.ok s (List.mem_of_find?_eq_some hf)).session
    rw [findS_session hf] at hs
    refine h.put ⟨hs, h3, ⟨by show 0 ≤ q; omega, h5⟩, h4⟩ ?_
    have := len_putS_old (x := ⟨n, q, at0, r⟩) hf
    have := h.len
    omega
  · rw [keepS_same he]; exact h
theorem TabOk.stay {L : List SeatS} (h : TabOk L) (f : Int) : TabOk (stayL L f) :=
  ⟨rise_filter h.rise _, Nat.le_trans (List.length_filter_le _ _) h.len, fun s hs => h.ok s (List.mem_filter.1 hs).1⟩
theorem find_stay {L : List SeatS} (hr : Rise L) (f n : Int) : findS (stayL L f) n = (findS L n).filter fun s => decide (f ≤ s.at_) := by
  rcases hf : findS L n with _ | s
  · rw [Option.filter_none, find_none]
    exact fun s hs => find_none.1 hf s (List.mem_filter.1 hs).1
  · obtain ⟨h1, h2⟩ := (find_iff hr).1 hf
    by_cases h : f ≤ s.at_
    · rw [Option.filter_some, if_pos (by simpa using h), find_iff (L := stayL L f) (rise_filter hr _)]
      exact ⟨List.mem_filter.2 ⟨h1, by simpa using h⟩, h2⟩
    · rw [Option.filter_some, if_neg (by simpa using h), find_none]
      intro t ht e
      obtain ⟨h3, h4⟩ := List.mem_filter.1 ht
      have := hr.inj h3 h1 (by rw [e, h2])
      subst this
      simp at h4
      omega
/-- An operation's number, of six. -/
def op6 (op : Int) : Int := wrap64 ((IntKind.u64.wrap op).tmod 6)
theorem op6_lt (op : Int) : ∃ r : Nat, op6 op = (r : Int) ∧ r < 6 := by
  unfold op6
  have hq : 0 ≤ IntKind.u64.wrap op := by rw [IntKind.wrap_u64]; omega
  rw [Int.tmod_eq_emod_of_nonneg hq]
  have h3 := Int.emod_nonneg (IntKind.u64.wrap op) (show (6 : Int) ≠ 0 by omega)
  have h4 := Int.emod_lt_of_pos (IntKind.u64.wrap op) (show (0 : Int) < 6 by omega)
  generalize (IntKind.u64.wrap op) % 6 = r at h3 h4
  obtain ⟨k, rfl⟩ : ∃ k : Nat, r = (k : Int) := ⟨r.toNat, by omega⟩
  exact ⟨k, IntWalk.wrap64_in _ (by omega), by omega⟩
def doS (L : List SeatS) (d : SDoS) : List SeatS :=
  if op6 d.op = 0 then (openS L d.at_).1 else if op6 d.op = 4 then stayL L d.at_ else (keepS L d.session d.seq d.at_ d.r).1
def playS (l : List SDoS) : List SeatS := l.foldl doS []
theorem TabOk.do_ {L : List SeatS} (h : TabOk L) (d : SDoS) : TabOk (doS L d) := by
  unfold doS
  split
  · exact h.open_ _
  · split
    · exact h.stay _
    · exact h.keep _ _ _ _
theorem TabOk.foldl {l : List SDoS} : ∀ {L : List SeatS}, TabOk L → TabOk (l.foldl doS L) := by
  induction l with
  | nil => exact fun h => h
  | cons d l ih => exact fun h => ih (h.do_ d)
theorem playS_ok (l : List SDoS) : TabOk (playS l) := TabOk.nil.foldl
theorem playS_snoc (l : List SDoS) (k : Nat) (h : k < l.length) : playS (l.take (k + 1)) = doS (playS (l.take k)) l[k] := by
  unfold playS
  rw [List.take_succ_eq_append_getElem h, List.foldl_append]
  rfl
end Go.Proofs.Ytkedmpppfejofaa
set_option linter.unusedVariables false
set_option linter.unusedSimpArgs false
namespace Go.Proofs.Ytkedmpppfejofaa
open Go.RowKit

def SDoI (d : SDoS) : Prop := I64 d.op ∧ I64 d.session ∧ I64 d.seq ∧ I64 d.at_ ∧ ReplyI d.r
theorem Row.sdo {w : World} {S : Nat → Prop} {A : Option Addr} {xs : List SDoS} (h : Row kSDo w S A xs) {j : Nat} (hj : j < xs.length) : ∃ ad, A = some ad ∧ S ad.block ∧ ad.block < w.heap.size ∧ SDoI xs[j] ∧ ∀ i u, (sdoC xs[j])[i]? = some u → w.cell? (ad.add (j * 12 + i)) = some u := by
  obtain ⟨ad, cs, rfl, hS, hl, hK, hc⟩ := h.get hj
  obtain ⟨rfl, hi⟩ := kSDo_iff.1 hK
  exact ⟨ad, rfl, hS, hl, hi, fun i u hu => hc i u (by simpa using hu)⟩
theorem sdo_at {w : World} {ad : Addr} {k : Nat} {s : SDoS} (h : ∀ i u, (sdoC s)[i]? = some u → w.cell? (ad.add (k * 12 + i)) = some u) :
    w.cell? (ad.add (k * 12)) = some (.int .i64 s.op) ∧ w.cell? { block := (ad.add (k * 12)).block, off := (ad.add (k * 12)).off + 1 } = some (.int .i64 s.session) ∧ w.cell? { block := (ad.add (k * 12)).block, off := (ad.add (k * 12)).off + 2 } = some (.int .i64 s.seq) ∧ w.cell? { block := (ad.add (k * 12)).block, off := (ad.add (k * 12)).off + 3 } = some (.int .i64 s.at_) ∧
    w.cell? { block := (ad.add (k * 12)).block, off := (ad.add (k * 12)).off + 4 } = some (.int .i64 s.r.err) ∧ w.cell? { block := (ad.add (k * 12)).block, off := (ad.add (k * 12)).off + 5 } = some (.int .i64 s.r.session) ∧ w.cell? { block := (ad.add (k * 12)).block, off := (ad.add (k * 12)).off + 6 } = some (.int .i64 s.r.gone) ∧
    w.cell? { block := (ad.add (k * 12)).block, off := (ad.add (k * 12)).off + 7 } = some (.int .i64 s.r.added) ∧ w.cell? { block := (ad.add (k * 12)).block, off := (ad.add (k * 12)).off + 8 } = some (.int .i64 s.r.same) ∧ w.cell? { block := (ad.add (k * 12)).block, off := (ad.add (k * 12)).off + 9 } = some (.int .i64 s.r.other) ∧
    w.cell? { block := (ad.add (k * 12)).block, off := (ad.add (k * 12)).off + 10 } = some (.int .i64 s.r.cycle) ∧ w.cell? { block := (ad.add (k * 12)).block, off := (ad.add (k * 12)).off + 11 } = some (.int .i64 s.r.full) := by
  have h' : ∀ i u, i ≠ 0 → (sdoC s)[i]? = some u → w.cell? { block := (ad.add (k * 12)).block, off := (ad.add (k * 12)).off + i } = some u := fun i u hi hu => by
    rw [← add_off hi, add_of_add]; exact h i u hu
  exact ⟨h 0 _ rfl, h' 1 _ (by decide) rfl, h' 2 _ (by decide) rfl, h' 3 _ (by decide) rfl, h' 4 _ (by decide) rfl, h' 5 _ (by decide) rfl, h' 6 _ (by decide) rfl, h' 7 _ (by decide) rfl, h' 8 _ (by decide) rfl, h' 9 _ (by decide) rfl, h' 10 _ (by decide) rfl, h' 11 _ (by decide) rfl⟩
theorem sdo_cells {W : World} {g : Nat} {r : SDoS} {t : TypeId} (h : W.heap[g]? = some (.cells (sdoC r) t (0, 0))) :
    W.cell? ⟨g, 0, none⟩ = some (.int .i64 r.op) ∧ W.cell? ⟨g, 1, none⟩ = some (.int .i64 r.session) ∧ W.cell? ⟨g, 2, none⟩ = some (.int .i64 r.seq) ∧ W.cell? ⟨g, 3, none⟩ = some (.int .i64 r.at_) ∧ W.cell? ⟨g, 4, none⟩ = some (.int .i64 r.r.err) ∧ W.cell? ⟨g, 5, none⟩ = some (.int .i64 r.r.session) ∧ W.cell? ⟨g, 6, none⟩ = some (.int .i64 r.r.gone) ∧ W.cell? ⟨g, 7, none⟩ = some (.int .i64 r.r.added) ∧ W.cell? ⟨g, 8, none⟩ = some (.int .i64 r.r.same) ∧ W.cell? ⟨g, 9, none⟩ = some (.int .i64 r.r.other) ∧ W.cell? ⟨g, 10, none⟩ = some (.int .i64 r.r.cycle) ∧ W.cell? ⟨g, 11, none⟩ = some (.int .i64 r.r.full) :=
  ⟨cell_blk h 0, cell_blk h 1, cell_blk h 2, cell_blk h 3, cell_blk h 4, cell_blk h 5, cell_blk h 6, cell_blk h 7, cell_blk h 8, cell_blk h 9, cell_blk h 10, cell_blk h 11⟩
set_option maxRecDepth 100000 in
set_option maxHeartbeats 4000000 in
theorem play_calls (w : World) (S : Nat → Prop) (v : Value) (l : List SDoS) (hr : Rs kSDo w S v l) :
    Calls Try.prog 14 #[v] w fun e w' => ∃ p b, w.heap.size ≤ p ∧ w.heap.size ≤ b ∧ e = .returned (.pointer (some ⟨p, 0, none⟩)) ∧ TabS w' p b (playS l) ∧ Ext w w' := by
  obtain ⟨A, c, rfl, hl, hc, hz, hrow⟩ := hr
  have HR := Lib.hid hrow
  clear hrow
  go_enter Try.func14, Try.ntmps14
  go_wp2_with fail
  refine (SNew_calls w).mono ?_
  rintro e w1 ⟨p, b, hp, hb, rfl, ht, hx⟩
  have HT := Lib.hid ht
  have HX := Lib.hid hx
  have HP := Lib.hid hp
  have HB := Lib.hid hb
  clear ht hx hp hb
  go_wp2_with fail
  go_loopw [9] (fun i wr => ∃ k : Nat, k ≤ l.length ∧ i = .int .i64 k ∧ Hid (TabS wr p b (playS (l.take k))) ∧ Hid (Ext w wr)) (fun i _ => l.length - (intOf i).toNat)
  case atStart => exact ⟨0, Nat.zero_le _, rfl, Lib.hid HT.out, Lib.hid HX.out⟩
  case round =>
    clear HT HX
    obtain ⟨k, hk, rfl, HT, HX⟩ := hrel
    by_cases hlt : k < l.length
    · obtain ⟨ad, rfl, -, -, hi, hx⟩ := (HR.out.keep (w' := wr) fun b _ hl => HX.out.block b hl).sdo hlt
      have HSN := Lib.hid (playS_snoc l k hlt)
      have HOK := Lib.hid (playS_ok (l.take k))
      have HI := Lib.hid hi
      obtain ⟨x0, x1, x2, x3, x4, x5, x6, x7, x8, x9, x10, x11⟩ := sdo_at hx
      generalize l[k] = d at *
      generalize playS (l.take k) = L at *
      clear hx hi
      go_upto_region 5 with fail
      obtain ⟨w2, hw2⟩ : ∃ w2, w2 = wr.alloc (.cells (sdoC d) 32) := ⟨_, rfl⟩
      obtain ⟨g, hg⟩ : ∃ g, g = wr.heap.size := ⟨_, rfl⟩
      have HX2 := Lib.hid (show Ext w w2 by rw [hw2]; exact HX.out.alloc _)
      have HT2 := Lib.hid (HT.out.ext (w' := w2) (by rw [hw2]; exact (Ext.refl _).alloc _))
      have hg2 : w2.heap[g]? = some (.cells (sdoC d) 32 (0, 0)) := by rw [hw2]; exact heap_new wr g hg.symm _
      unfold sdoC at hw2
      rw [← hw2, ← hg]
      clear hw2 hg x0 x1 x2 x3 x4 x5 x6 x7 x8 x9 x10 x11 HX HT
      obtain ⟨x0, x1, x2, x3, x4, x5, x6, x7, x8, x9, x10, x11⟩ := sdo_cells hg2
      clear hg2
      have ho6 : wrap64 ((IntKind.u64.wrap d.op).tmod 6) = op6 d.op := rfl
      have HDO := Lib.hid (show doS L d = if op6 d.op = 0 then (openS L d.at_).1 else if op6 d.op = 4 then stayL L d.at_ else (keepS L d.session d.seq d.at_ d.r).1 from rfl)
      by_cases h0 : op6 d.op = 0
      · have HN := Lib.hid (show playS (l.take (k + 1)) = (openS L d.at_).1 by rw [HSN.out, HDO.out, if_pos h0])
        rw [h0] at ho6
        clear h0
        go_wp2_with fail
        refine (Open_calls w2 p b L d.at_ HI.out.2.2.2.1 HOK.out.len1 HT2.out).mono ?_
        rintro e w3 ⟨rfl, ht, hu⟩
        have HT3 := Lib.hid ht
        have HX3 := Lib.hid (hu.ext HX2.out (fun k hk => by rw [hk]; exact HB.out))
        clear ht hu x0 x1 x2 x3 x4 x5 x6 x7 x8 x9 x10 x11
        go_wp2_with fail
        go_roundw
        case rel => exact ⟨k + 1, by omega, by go_num, by rw [HN.out]; exact HT3, HX3⟩
        case measure => simp [intOf]; omega
      · have hn0 : (op6 d.op == 0) = false := beq_eq_false_iff_ne.2 h0
        by_cases h4 : op6 d.op = 4
        · have HN := Lib.hid (show playS (l.take (k + 1)) = stayL L d.at_ by rw [HSN.out, HDO.out, if_neg h0, if_pos h4])
          rw [h4] at ho6
          clear h0 h4 hn0
          go_wp2_with fail
          refine (Expire_calls w2 p b L d.at_ HOK.out.rise HOK.out.len1 HT2.out).mono ?_
          rintro e w3 ⟨rfl, ht, hu⟩
          have HT3 := Lib.hid ht
          have HX3 := Lib.hid (hu.ext HX2.out (fun k hk => by rw [hk]; exact HB.out))
          clear ht hu x0 x1 x2 x3 x4 x5 x6 x7 x8 x9 x10 x11
          go_wp2_with fail
          go_roundw
          case rel => exact ⟨k + 1, by omega, by go_num, by rw [HN.out]; exact HT3, HX3⟩
          case measure => simp [intOf]; omega
        · have HN := Lib.hid (show playS (l.take (k + 1)) = (keepS L d.session d.seq d.at_ d.r).1 by rw [HSN.out, HDO.out, if_neg h0, if_neg h4])
          have hn4 : (op6 d.op == 4) = false := beq_eq_false_iff_ne.2 h4
          clear h0 h4
          go_wp2_with fail
          refine (Keep_calls w2 p b L d.session d.seq d.at_ d.r HI.out.2.1 HI.out.2.2.1 HOK.out.len1 HT2.out).mono ?_
          rintro e w3 ⟨rfl, ht, hu⟩
          have HT3 := Lib.hid ht
          have HX3 := Lib.hid (hu.ext HX2.out (fun k hk => by rw [hk]; exact HB.out))
          clear ht hu x0 x1 x2 x3 x4 x5 x6 x7 x8 x9 x10 x11
          go_wp2_with fail
          go_roundw
          case rel => exact ⟨k + 1, by omega, by go_num, by rw [HN.out]; exact HT3, HX3⟩
          case measure => simp [intOf]; omega
    · obtain rfl : k = l.length := by omega
      have ht := HT.out
      rw [List.take_length] at ht
      have HT2 := Lib.hid ht
      clear ht HT
      go_wp2_with fail
      go_ret
      exact ⟨p, b, HP.out, HB.out, rfl, HT2.out, HX.out⟩
end Go.Proofs.Ytkedmpppfejofaa
set_option linter.unusedVariables false
set_option linter.unusedSimpArgs false
namespace Go.Proofs.Ytkedmpppfejofaa
open Go.RowKit

section
variable {L : List SeatS} {s : SeatS} {n : Int}
theorem find_open (h : TabOk L) (hf : findS L n = some s) (a : Int) : findS (openS L a).1 n = some s := by
  unfold openS
  split
  · exact hf
  · rename_i h1
    split
    · exact hf
    · rw [find_putS h.rise, if_neg]
      · exact hf
      · show ¬ n = a
        rintro rfl
        exact h1 (.inr (by rw [hf]; rfl))
theorem find_keep (h : TabOk L) (hf : findS L n = some s) {m q a : Int} {r : ReplyS} (hm : m ≠ n) : findS (keepS L m q a r).1 n = some s := by
  by_cases he : (keepS L m q a r).2 = 0
  · obtain ⟨t, _, _, _, _, _, _, e⟩ := keepS_iff he
    rw [e, find_putS h.rise, if_neg (fun e => hm e.symm)]
    exact hf
  · rw [keepS_same he]; exact hf
theorem ask_same (hf : findS L n = some s) (h1 : 1 ≤ s.seq) : askS L n s.seq = (s.r, true, 0) := by
  rw [askS_some hf, if_neg (by omega), if_pos rfl]
theorem keep_again (hf : findS L n = some s) (h1 : 1 ≤ s.seq) (a : Int) (r : ReplyS) : keepS L n s.seq a r = (L, 81) := by
  unfold keepS
  rw [ask_same hf h1]
  simp
theorem ask_next (hf : findS L n = some s) (h1 : 0 ≤ s.seq) : askS L n (s.seq + 1) = (zeroR, false, 0) := by
  rw [askS_some hf, if_neg (by omega), if_neg (by omega), if_neg (by omega)]
theorem keep_next (hf : findS L n = some s) (h1 : 0 ≤ s.seq) (h2 : s.seq ≤ 1099511627776) {a : Int} {r : ReplyS} (ha : idxF a = true) (hr : chkR8 r = true) :
    keepS L n (s.seq + 1) a r = if s.seq = 1099511627776 then (L, 1) else (putS L ⟨n, s.seq + 1, a, r⟩, 0) := by
  unfold keepS
  rw [ask_next hf h1, ha, hr]
  simp only [ne_eq, not_true_eq_false, if_false, Bool.false_eq_true, Bool.true_eq_false, false_or]
  by_cases h : s.seq = 1099511627776
  · rw [if_pos h, if_pos (by omega)]
  · rw [if_neg h, if_neg (by omega)]
theorem ask_old (hr : Rise L) {q : Int} {x : SeatS} (hq : q < x.seq) : askS (putS L x) x.session q = (zeroR, false, 81) := by
  rw [askS_some (s := x) (by rw [find_putS hr, if_pos rfl]), if_pos (.inl hq)]
end
def gone1 : ReplyS := ⟨0, 0, 1, 0, 0, 0, 0, 0⟩
/-- What SessionOnce leans on behind the first Keep. -/
structure Kept (L : List SeatS) (k : SDoS) : Prop where
  ok : TabOk L
  find : findS L k.session = some ⟨k.session, k.seq, k.at_, k.r⟩
  seq : 1 ≤ k.seq ∧ k.seq ≤ 1099511627776
  at_ : idxF k.at_ = true
theorem Kept.of {L : List SeatS} (h : TabOk L) {k : SDoS} (he : (keepS L k.session k.seq k.at_ k.r).2 = 0) : Kept (keepS L k.session k.seq k.at_ k.r).1 k := by
  have h0 := h.keep k.session k.seq k.at_ k.r
  obtain ⟨s, hf, h1, h2, h3, h4, h5, e⟩ := keepS_iff he
  refine ⟨h0, ?_, ⟨h2, h5⟩, h3⟩
  rw [e, find_putS h.rise, if_pos rfl]
theorem Kept.open_ {L : List SeatS} {k : SDoS} (h : Kept L k) (a : Int) : Kept (openS L a).1 k := ⟨h.ok.open_ a, find_open h.ok h.find a, h.seq, h.at_⟩
theorem Kept.keep {L : List SeatS} {k : SDoS} (h : Kept L k) (m q a : Int) (r : ReplyS) (hm : m ≠ k.session) : Kept (keepS L m q a r).1 k := ⟨h.ok.keep _ _ _ _, find_keep h.ok h.find hm, h.seq, h.at_⟩
theorem Kept.ask {L : List SeatS} {k : SDoS} (h : Kept L k) : askS L k.session k.seq = (k.r, true, 0) := ask_same h.find h.seq.1
theorem Kept.again {L : List SeatS} {k : SDoS} (h : Kept L k) (a : Int) (r : ReplyS) : keepS L k.session k.seq a r = (L, 81) := keep_again h.find h.seq.1 a r
theorem Kept.next {L : List SeatS} {k : SDoS} (h : Kept L k) : keepS L k.session (k.seq + 1) k.at_ gone1 = if k.seq = 1099511627776 then (L, 1) else (putS L ⟨k.session, k.seq + 1, k.at_, gone1⟩, 0) :=
  keep_next h.find (show (0 : Int) ≤ k.seq by have := h.seq; omega) h.seq.2 h.at_ (by decide)
theorem Kept.old {L : List SeatS} {k : SDoS} (h : Kept L k) : askS (putS L ⟨k.session, k.seq + 1, k.at_, gone1⟩) k.session k.seq = (zeroR, false, 81) :=
  ask_old h.ok.rise (x := ⟨k.session, k.seq + 1, k.at_, gone1⟩) (show k.seq < k.seq + 1 by omega)
end Go.Proofs.Ytkedmpppfejofaa
set_option linter.unusedVariables false
set_option linter.unusedSimpArgs false
namespace Go.Proofs.Ytkedmpppfejofaa
open Go.RowKit

set_option maxRecDepth 100000 in
set_option maxHeartbeats 8000000 in
theorem SessionOnce_go (w : World) (S0 : Nat → Prop) (v0 : Value) (l : List SDoS) (h0 : Rs kSDo w S0 v0 l) (S1 : Nat → Prop) (v1 : Value) (more : List SDoS) (h1 : Rs kSDo w S1 v1 more) (k : SDoS) (hk : SDoI k) :
    Calls Try.prog 4 #[v0, v1, .agg (sdoC k)] w fun e w' => e = .returned (.bool true) ∧ Ext w w' := by
  have H0 := Lib.hid h0
  have H1 := Lib.hid h1
  have HK := Lib.hid hk
  obtain ⟨A0, c0, rfl, -⟩ := h0
  obtain ⟨A1, c1, rfl, -, -, -, h1r⟩ := h1
  have HR := Lib.hid h1r
  clear h1r
  clear hk
  dsimp only [sdoC]
  go_enter Try.func4, Try.ntmps4
  go_upto_region 1 with fail
  obtain ⟨w1, hw1⟩ : ∃ w1, w1 = w.alloc (.cells (sdoC k) 32) := ⟨_, rfl⟩
  obtain ⟨gk, hgk⟩ : ∃ g, g = w.heap.size := ⟨_, rfl⟩
  have HX1 := Lib.hid (show Ext w w1 by rw [hw1]; exact (Ext.refl _).alloc _)
  have HG1 := Lib.hid (show w1.heap[gk]? = some (.cells (sdoC k) 32 (0, 0)) by rw [hw1]; exact heap_new w gk hgk.symm _)
  have HGK := Lib.hid hgk
  unfold sdoC at hw1
  rw [← hw1, ← hgk]
  clear hw1 hgk
  have awk : ∀ W : World, Ext w W → Calls Try.prog 13 #[] W fun e w' => e = .returned (.bool true) ∧ Hid (Ext w w') := fun W hW => (awake_calls W).mono fun _ _ h => ⟨h.1, Lib.hid (hW.trans h.2)⟩
  by_cases ha : 200 < l.length
  · go_wp2_with fail
    refine (awk _ HX1.out).mono ?_
    rintro e w' ⟨rfl, HE⟩
    go_wp2_with fail
    go_ret
    exact ⟨rfl, HE.out⟩
  by_cases hb : 200 < more.length
  · go_wp2_with fail
    refine (awk _ HX1.out).mono ?_
    rintro e w' ⟨rfl, HE⟩
    go_wp2_with fail
    go_ret
    exact ⟨rfl, HE.out⟩
  go_wp2_with fail
  refine (play_calls w1 _ _ l (H0.out.ext HX1.out)).mono ?_
  rintro e w2 ⟨p, b, hp, hb2, rfl, ht, hx⟩
  have HX2 := Lib.hid (HX1.out.trans hx)
  have HG2 := Lib.hid (blk_ext HG1.out hx)
  have HP := Lib.hid (show gk < p ∧ gk < b from ⟨Nat.lt_of_lt_of_le (blk_lt HG1.out) hp, Nat.lt_of_lt_of_le (blk_lt HG1.out) hb2⟩)
  have HT2 := Lib.hid ht
  have HOK := Lib.hid (playS_ok l)
  generalize playS l = L at *
  clear hp hb2 ht hx HG1 HX1
  obtain ⟨x0, x1, x2, x3, x4, x5, x6, x7, x8, x9, x10, x11⟩ := sdo_cells HG2.out
  go_wp2_with fail
  refine (Keep_calls w2 p b L k.session k.seq k.at_ k.r HK.out.2.1 HK.out.2.2.1 HOK.out.len1 HT2.out).mono ?_
  rintro e w3 ⟨rfl, ht, hu⟩
  have HT3 := Lib.hid ht
  have HX3 := Lib.hid (hu.ext HX2.out (fun j hj => by rw [hj]; have := HP.out; have := HGK.out; omega))
  have HG3 := Lib.hid (blk_upd HG2.out hu (fun e => by have := HP.out; omega))
  clear ht hu x0 x1 x2 x3 x4 x5 x6 x7 x8 x9 x10 x11 HG2 HX2 HT2
  by_cases he : (keepS L k.session k.seq k.at_ k.r).2 = 0
  · have HKP := Lib.hid (Kept.of HOK.out he)
    rw [he]
    generalize (keepS L k.session k.seq k.at_ k.r).1 = L1 at *
    clear he HOK
    go_wp2_with fail
    go_loopw [42] (fun i wr => ∃ j : Nat, j ≤ more.length ∧ i = .int .i64 j ∧ ∃ Lx, Hid (TabS wr p b Lx) ∧ Hid (Kept Lx k) ∧ Hid (Ext w wr) ∧ Hid (wr.heap[gk]? = some (.cells (sdoC k) 32 (0, 0)))) (fun i _ => more.length - (intOf i).toNat)
    case atStart => exact ⟨0, Nat.zero_le _, rfl, L1, HT3, HKP, HX3, HG3⟩
    case round =>
      clear HT3 HKP HX3 HG3
      obtain ⟨j, hj, rfl, Lx, HT, HKP, HX, HG⟩ := hrel
      by_cases hlt : j < more.length
      · obtain ⟨ad, rfl, -, -, hi, hx⟩ := (HR.out.keep (w' := wr) fun b _ hl => HX.out.block b hl).sdo hlt
        have HI := Lib.hid hi
        obtain ⟨x0, x1, x2, x3, x4, x5, x6, x7, x8, x9, x10, x11⟩ := sdo_at hx
        generalize more[j] = d at *
        clear hx hi
        go_upto_region 9 with fail
        obtain ⟨w4, hw4⟩ : ∃ w4, w4 = wr.alloc (.cells (sdoC d) 32) := ⟨_, rfl⟩
        obtain ⟨g, hg⟩ : ∃ g, g = wr.heap.size := ⟨_, rfl⟩
        have hx4 : Ext wr w4 := by rw [hw4]; exact (Ext.refl _).alloc _
        have HX4 := Lib.hid (HX.out.trans hx4)
        have HT4 := Lib.hid (HT.out.ext hx4)
        have HG4 := Lib.hid (blk_ext HG.out hx4)
        have HD4 := Lib.hid (show w4.heap[g]? = some (.cells (sdoC d) 32 (0, 0)) by rw [hw4]; exact heap_new wr g hg.symm _)
        have HBG := Lib.hid (show ¬ g = b by have := HT.out.2.1.lt; omega)
        unfold sdoC at hw4
        rw [← hw4, ← hg]
        clear hw4 hg hx4 x0 x1 x2 x3 x4 x5 x6 x7 x8 x9 x10 x11 HX HT HG
        have hgb : ¬ gk = b := by have := HP.out; omega
        have HGB := Lib.hid hgb
        clear hgb
        have z1 : w4.cell? ⟨gk, 1, none⟩ = some (.int .i64 k.session) := cell_blk HG4.out 1
        obtain ⟨x0, x1, x2, x3, x4, x5, x6, x7, x8, x9, x10, x11⟩ := sdo_cells HD4.out
        have ho6 : wrap64 ((IntKind.u64.wrap d.op).tmod 6) = op6 d.op := rfl
        go_cut [58] (fun s58 wx => ∃ bb : Bool, s58 = .bool bb ∧ Hid (bb = true → d.session ≠ k.session) ∧ w4 = wx)
        case first =>
          by_cases h4 : op6 d.op = 4
          · rw [h4] at ho6
            clear h4
            go_wp2_with fail
            go_meet
            exact ⟨false, rfl, Lib.hid (fun h => by cases h), rfl⟩
          · have hn4 : (op6 d.op != 4) = true := bne_iff_ne.2 h4
            clear h4
            by_cases hs : d.session = k.session
            · have hbs : (d.session != k.session) = false := by simp [hs]
              clear hs
              go_wp2_with fail
              go_meet
              exact ⟨false, rfl, Lib.hid (fun h => by cases h), rfl⟩
            · have hbs : (d.session != k.session) = true := bne_iff_ne.2 hs
              have HS := Lib.hid hs
              clear hs
              go_wp2_with fail
              go_meet
              exact ⟨true, rfl, Lib.hid (fun _ => HS.out), rfl⟩
        obtain ⟨bb, rfl, HBB, rfl⟩ := hcut
        clear ho6
        go_upto_if 58 with fail
        go_cut [] (fun wx => ∃ L2, Hid (TabS wx p b L2) ∧ Hid (Kept L2 k) ∧ Hid (Ext w wx) ∧ Hid (wx.heap[gk]? = some (.cells (sdoC k) 32 (0, 0))) ∧ Hid (wx.heap[g]? = some (.cells (sdoC d) 32 (0, 0))))
        case first =>
          cases bb
          · go_wp2_with fail
            go_meet
            exact ⟨Lx, HT4, HKP, HX4, HG4, HD4⟩
          · have HNE := Lib.hid (HBB.out rfl)
            clear HBB
            go_wp2_with fail
            refine (Open_calls w4 p b Lx d.at_ HI.out.2.2.2.1 HKP.out.ok.len1 HT4.out).mono ?_
            rintro e w5 ⟨rfl, ht, hu⟩
            have HT5 := Lib.hid ht
            have HKP5 := Lib.hid (HKP.out.open_ d.at_)
            have HX5 := Lib.hid (hu.ext HX4.out (fun j hj => by rw [hj]; have := HP.out; have := HGK.out; omega))
            have HG5 := Lib.hid (blk_upd HG4.out hu HGB.out)
            have HD5 := Lib.hid (blk_upd HD4.out hu HBG.out)
            generalize (openS Lx d.at_).1 = L5 at *
            generalize (openS Lx d.at_).2 = e5 at *
            clear ht hu x0 x1 x2 x3 x4 x5 x6 x7 x8 x9 x10 x11 z1
            obtain ⟨x0, x1, x2, x3, x4, x5, x6, x7, x8, x9, x10, x11⟩ := sdo_cells HD5.out
            go_wp2_with fail
            refine (Keep_calls w5 p b L5 d.session d.seq d.at_ d.r HI.out.2.1 HI.out.2.2.1 HKP5.out.ok.len1 HT5.out).mono ?_
            rintro e w6 ⟨rfl, ht, hu⟩
            have HT6 := Lib.hid ht
            have HKP6 := Lib.hid (HKP5.out.keep d.session d.seq d.at_ d.r HNE.out)
            have HX6 := Lib.hid (hu.ext HX5.out (fun j hj => by rw [hj]; have := HP.out; have := HGK.out; omega))
            have HG6 := Lib.hid (blk_upd HG5.out hu HGB.out)
            have HD6 := Lib.hid (blk_upd HD5.out hu HBG.out)
            generalize (keepS L5 d.session d.seq d.at_ d.r).1 = L6 at *
            generalize (keepS L5 d.session d.seq d.at_ d.r).2 = e6 at *
            clear ht hu x0 x1 x2 x3 x4 x5 x6 x7 x8 x9 x10 x11
            go_wp2_with fail
            go_meet
            exact ⟨L6, HT6, HKP6, HX6, HG6, HD6⟩
        case rest =>
          obtain ⟨L2, HT5, HKP5, HX5, HG5, HD5⟩ := hcut
          clear HT4 HKP HX4 HG4 HD4 x0 x1 x2 x3 x4 x5 x6 x7 x8 x9 x10 x11 z1 HBB
          have y1 : wc.cell? ⟨gk, 1, none⟩ = some (.int .i64 k.session) := cell_blk HG5.out 1
          have y2 : wc.cell? ⟨gk, 2, none⟩ = some (.int .i64 k.seq) := cell_blk HG5.out 2
          go_wp2_with fail
          refine (Ask_calls wc p b L2 k.session k.seq HK.out.2.1 HK.out.2.2.1 HT5.out).mono ?_
          rw [HKP5.out.ask]
          rintro e w6 ⟨rfl, hx⟩
          dsimp only [replyC]
          go_upto_region 13 with fail
          obtain ⟨w7, hw7⟩ : ∃ w7, w7 = w6.alloc (.cells (replyC k.r) 26) := ⟨_, rfl⟩
          obtain ⟨gr, hgr⟩ : ∃ g, g = w6.heap.size := ⟨_, rfl⟩
          have hx7 : Ext wc w7 := by rw [hw7]; exact hx.alloc _
          have HX7 := Lib.hid (HX5.out.trans hx7)
          have HT7 := Lib.hid (HT5.out.ext hx7)
          have HG7 := Lib.hid (blk_ext HG5.out hx7)
          have HD7 := Lib.hid (blk_ext HD5.out hx7)
          have HR7 := Lib.hid (show w7.heap[gr]? = some (.cells (replyC k.r) 26 (0, 0)) by rw [hw7]; exact heap_new w6 gr hgr.symm _)
          unfold replyC at hw7
          rw [← hw7, ← hgr]
          clear hw7 hgr hx hx7 y1 y2 HX5 HT5 HG5 HD5
          obtain ⟨y0, y1, y2, y3, y4, y5, y6, y7, y8, y9, y10, y11⟩ := sdo_cells HG7.out
          obtain ⟨x0, x1, x2, x3, x4, x5, x6, x7, x8, x9, x10, x11⟩ := sdo_cells HD7.out
          obtain ⟨z0, z1, z2, z3, z4, z5, z6, z7⟩ := rep_cells HR7.out
          have hq := fun W => reply_neq W k.r k.r
          rw [show beqR k.r k.r = true by simp [beqR]] at hq
          simp only [replyC] at hq
          go_wp2_with fail
          refine (Keep_calls w7 p b L2 k.session k.seq k.at_ d.r HK.out.2.1 HK.out.2.2.1 HKP5.out.ok.len1 HT7.out).mono ?_
          rw [HKP5.out.again]
          rintro e w8 ⟨rfl, ht, hu⟩
          have HT8 := Lib.hid ht
          have HX8 := Lib.hid (hu.ext HX7.out (fun j hj => by rw [hj]; have := HP.out; have := HGK.out; omega))
          have HG8 := Lib.hid (blk_upd HG7.out hu HGB.out)
          clear ht hu x0 x1 x2 x3 x4 x5 x6 x7 x8 x9 x10 x11 y0 y1 y2 y3 y4 y5 y6 y7 y8 y9 y10 y11 z0 z1 z2 z3 z4 z5 z6 z7 hq
          go_wp2_with fail
          go_roundw
          case rel => exact ⟨j + 1, by omega, by go_num, L2, HT8, HKP5, HX8, HG8⟩
          case measure => simp [intOf]; omega
      · obtain rfl : j = more.length := by omega
        obtain ⟨y0, y1, y2, y3, y4, y5, y6, y7, y8, y9, y10, y11⟩ := sdo_cells HG.out
        have hsq := HKP.out.seq
        have hI1 := hsq.1
        have hI2 := hsq.2
        clear hsq
        have HGB := Lib.hid (show ¬ gk = b by have := HP.out; omega)
        go_wp2_with fail
        refine (Keep_calls wr p b Lx k.session (k.seq + 1) k.at_ gone1 HK.out.2.1 ⟨by omega, by omega⟩ HKP.out.ok.len1 HT.out).mono ?_
        rw [HKP.out.next]
        by_cases hf : k.seq = 1099511627776
        · rw [if_pos hf]
          rintro e w8 ⟨rfl, ht, hu⟩
          have HX8 := Lib.hid (hu.ext HX.out (fun j hj => by rw [hj]; have := HP.out; have := HGK.out; omega))
          have HG8 := Lib.hid (blk_upd HG.out hu HGB.out)
          clear ht hu y0 y1 y2 y3 y4 y5 y6 y7 y8 y9 y10 y11
          have y2 : w8.cell? ⟨gk, 2, none⟩ = some (.int .i64 k.seq) := cell_blk HG8.out 2
          rw [hf] at y2
          clear hf
          go_wp2_with fail
          refine (awk _ HX8.out).mono ?_
          rintro e w' ⟨rfl, HE⟩
          go_wp2_with fail
          go_ret
          exact ⟨rfl, HE.out⟩
        · rw [if_neg hf]
          rintro e w8 ⟨rfl, ht, hu⟩
          have HT8 := Lib.hid ht
          have HX8 := Lib.hid (hu.ext HX.out (fun j hj => by rw [hj]; have := HP.out; have := HGK.out; omega))
          have HG8 := Lib.hid (blk_upd HG.out hu HGB.out)
          clear ht hu y0 y1 y2 y3 y4 y5 y6 y7 y8 y9 y10 y11 hf
          have y1 : w8.cell? ⟨gk, 1, none⟩ = some (.int .i64 k.session) := cell_blk HG8.out 1
          have y2 : w8.cell? ⟨gk, 2, none⟩ = some (.int .i64 k.seq) := cell_blk HG8.out 2
          go_wp2_with fail
          refine (Ask_calls w8 p b _ k.session k.seq HK.out.2.1 HK.out.2.2.1 HT8.out).mono ?_
          rw [HKP.out.old]
          rintro e w9 ⟨rfl, hx⟩
          have HX9 := Lib.hid (HX8.out.trans hx)
          clear hx
          dsimp only [replyC, zeroR]
          go_wp2_with fail
          refine (awk _ (HX9.out.alloc _)).mono ?_
          rintro e w' ⟨rfl, HE⟩
          go_wp2_with fail
          go_ret
          exact ⟨rfl, HE.out⟩
  · have hne : ((keepS L k.session k.seq k.at_ k.r).2 != 0) = true := bne_iff_ne.2 he
    clear he
    go_wp2_with fail
    refine (awk _ HX3.out).mono ?_
    rintro e w' ⟨rfl, HE⟩
    go_wp2_with fail
    go_ret
    exact ⟨rfl, HE.out⟩
theorem SessionOnce_walk (w : World) (S0 : Nat → Prop) (v0 : Value) (l : List SDoS) (h0 : Rs kSDo w S0 v0 l) (S1 : Nat → Prop) (v1 : Value) (more : List SDoS) (h1 : Rs kSDo w S1 v1 more) (cs : Array Value) (k : SDoS) (hk : kSDo.K w (· < w.heap.size) k cs.toList) :
    Calls Try.prog 4 #[v0, v1, .agg cs] w fun e w' => e = .returned (.bool true) ∧ Ext w w' := by
  obtain ⟨e, hI⟩ := kSDo_iff.1 hk
  rw [Array.toList_inj.1 e]
  exact SessionOnce_go w S0 v0 l h0 S1 v1 more h1 k hI
end Go.Proofs.Ytkedmpppfejofaa
