/-
  Texts of this claim, put together: Ints, MsgKit, RosSpec, RosCheck, WireSpec, ScanSpec, SumSpec, RecSpec, MsgSpec.
-/
import Derived.Test.YtfflcnlgkbgbhaaZ1
set_option linter.unusedVariables false
set_option linter.unusedSimpArgs false
namespace Go.Proofs.Ytfflcnlgkbgbhaa
open Go.RowKit

theorem bool_ret {a b : Bool} (h : a = b) : Ending.returned (.bool a) = .returned (.bool b) := by rw [h]
theorem int_ret {k : IntKind} {a b : Int} (h : a = b) : Ending.returned (.int k a) = .returned (.int k b) := by rw [h]

set_option maxHeartbeats 400000 in
theorem CloneI_calls (w : World) (S : Nat → Prop) (v : Value) (bs : List Int) (hr : Rs kInt w S v bs) (hsz : bs.length * 8 ≤ 140737488355328) :
    Calls Try.prog 39 #[v] w fun e w' => ∃ u, e = .returned u ∧ Ow kInt 3 w' w.heap.size (w.heap.size ≤ ·) u bs ∧ Ext w w' := by
  have HR := Lib.hid hr
  obtain ⟨A, c, rfl, hl, hc, hzl, hrow⟩ := hr
  cases A with
  | none =>
    have : bs = [] := by
      rcases Nat.eq_zero_or_pos bs.length with h0 | h0
      · exact List.eq_nil_of_length_eq_zero h0
      · obtain ⟨ad, h, _⟩ := hrow h0; cases h
    subst this
    clear hrow
    have hq := @Lib.run_eql_slice_nil Try.prog
    go_enter Try.func39, Try.ntmps39
    go_wp2
    go_ret
    exact ⟨_, rfl, Ow.nil _ _ _ _ _, Ext.refl _⟩
  | some ad =>
    clear hrow
    have hq := @Lib.run_eql_slice_nil Try.prog
    go_enter Try.func39, Try.ntmps39
    go_wp2_with (at_builtin; refine wpList_append_Rs kInt rfl (.tmp 5) (.tmp 6) 23 3 rfl tInts w.heap.size _ _ [] bs (w.heap.size ≤ ·) S rfl rfl ?co (HR.out.alloc _) (fun _ _ h => h) ?cn ?cb ?cz ?_)
    case co => exact Ow.slit (xs := []) (heap_alloc_new _ _) (Nat.le_refl _) (Nat.le_refl _) (by simp) (by simp)
    case cn => intro b hb; simp at hb; omega
    case cb => simpa using hsz
    case cz => simp
    intro v' w2 ho hg _
    have HO := Lib.hid ho
    have HE := Lib.hid (((Ext.refl w).alloc _).grown hg (fun k hk => by simp [Value.ownBlock] at hk; omega))
    clear ho hg
    go_wp2
    go_ret
    exact ⟨_, rfl, HO.out, HE.out⟩

theorem Row.ints_of {w : World} {S : Nat → Prop} {g off : Nat} {cs : Array Value} {t : TypeId} {fz : Nat × Nat} (hb : w.heap[g]? = some (.cells cs t fz)) (hS : S g) {xs : List Int} (hP : ∀ x ∈ xs, I64 x) (hx : ∀ j x, xs[j]? = some x → cs[off + j]? = some (.int .i64 x)) : Row kInt w S (some ⟨g, off, none⟩) xs :=
  Row.of_block hb hS fun j x hj => ⟨[.int .i64 x], ⟨rfl, hP x (List.mem_of_getElem? hj)⟩, fun i u hi => by
    cases i with
    | zero => simp at hi; subst hi; simpa [kInt, Kd.scalar] using hx j x hj
    | succ i => simp at hi⟩
theorem Rs.one_int (W : World) (g e : Nat) (hg : W.heap.size = g) (n : Int) (hn : I64 n) : Rs kInt (W.alloc (.cells #[.int .i64 n] e)) (fun _ => True) (.slice (some ⟨g, 0, none⟩) 1 1) [n] :=
  ⟨_, 1, rfl, by simp, by omega, by simp, Row.ints_of (heap_new W g hg _) trivial (by simpa using hn) fun j x hj => by
    match j, hj with
    | 0, hj => simp at hj; subst hj; rfl⟩
/-- A literal list of numbers. -/
theorem Rs.ints (W : World) (g e : Nat) (hg : W.heap.size = g) (xs : List Int) (hn : ∀ x ∈ xs, I64 x) (hl : xs.length ≤ 1000000) : Rs kInt (W.alloc (.cells (xs.map (Value.int .i64)).toArray e)) (fun _ => True) (.slice (some ⟨g, 0, none⟩) xs.length xs.length) xs :=
  ⟨_, xs.length, rfl, Nat.le_refl _, by omega, by omega, Row.ints_of (heap_new W g hg _) trivial hn fun j x hj => by simp [hj]⟩

/-- Where a number stands first. -/
def idxI : List Int → Int → Int
  | [], _ => -1
  | x :: l, n => if n = x then 0 else if idxI l n < 0 then -1 else idxI l n + 1
/-- Is it there? -/
def hasB (l : List Int) (n : Int) : Bool := decide (n ∈ l)
theorem idxI_bd (l : List Int) (n : Int) : -1 ≤ idxI l n ∧ idxI l n < l.length := by
  induction l with
  | nil => simp [idxI]
  | cons x l ih =>
    simp only [idxI, List.length_cons]
    split
    · omega
    · split <;> omega
theorem idxI_has (l : List Int) (n : Int) : (0 ≤ idxI l n) ↔ hasB l n = true := by
  induction l with
  | nil => simp [idxI, hasB]
  | cons x l ih =>
    simp only [hasB, decide_eq_true_eq, List.mem_cons] at ih ⊢
    simp only [idxI]
    split
    · rename_i h; simp [h]
    · rename_i h
      split
      · rename_i h2
        have : ¬ n ∈ l := by rw [← ih]; omega
        simp [h, this]
      · rename_i h2
        have : n ∈ l := by rw [← ih]; omega
        simp [this]; omega
/-- The search, begun behind k of them. -/
def idxFrom (l : List Int) (n : Int) (k : Nat) : Int := if idxI (l.drop k) n < 0 then -1 else idxI (l.drop k) n + k
theorem idxFrom_zero (l : List Int) (n : Int) : idxFrom l n 0 = idxI l n := by
  have := idxI_bd l n
  simp only [idxFrom, List.drop_zero]; split <;> omega
theorem idxFrom_hit (l : List Int) (k : Nat) (hk : k < l.length) : idxFrom l l[k] k = k := by
  have : l.drop k = l[k] :: l.drop (k + 1) := List.drop_eq_getElem_cons hk
  unfold idxFrom; rw [this]; simp [idxI]
theorem idxFrom_next (l : List Int) (n : Int) (k : Nat) (hk : k < l.length) (hn : n ≠ l[k]) : idxFrom l n k = idxFrom l n (k + 1) := by
  have e : l.drop k = l[k] :: l.drop (k + 1) := List.drop_eq_getElem_cons hk
  have := idxI_bd (l.drop (k + 1)) n
  unfold idxFrom; rw [e]; simp only [idxI, if_neg hn]
  by_cases h : idxI (l.drop (k + 1)) n < 0
  · simp [h]
  · simp [h]; omega
theorem idxFrom_end (l : List Int) (n : Int) : idxFrom l n l.length = -1 := by simp [idxFrom, idxI]

set_option maxHeartbeats 400000 in
theorem IndexI_calls (w : World) (S : Nat → Prop) (v : Value) (l : List Int) (n : Int) (hr : Rs kInt w S v l) :
    Calls Try.prog 35 #[v, .int .i64 n] w fun e w' => e = .returned (.int .i64 (idxI l n)) ∧ w = w' := by
  obtain ⟨A, c, rfl, hl, hc, hz, hrow⟩ := hr
  have HR := Lib.hid hrow
  clear hrow
  go_enter Try.func35, Try.ntmps35
  go_wp2
  go_loop [8] (fun i => ∃ k : Nat, k ≤ l.length ∧ i = .int .i64 k ∧ Hid (idxFrom l n k = idxI l n)) (fun i => l.length - (intOf i).toNat)
  case atStart => exact ⟨0, Nat.zero_le _, rfl, Lib.hid (idxFrom_zero l n)⟩
  case round =>
    obtain ⟨k, hk, rfl, HQ⟩ := hrel
    by_cases hlt : k < l.length
    · obtain ⟨ad, rfl, hcell, _⟩ := HR.out.int hlt
      by_cases he : n = l[k]
      · have hb : (n == l[k]) = true := beq_iff_eq.2 he
        have HE := Lib.hid he
        clear he
        go_wp2
        go_ret
        exact ⟨int_ret (by rw [← HQ.out]; have := HE.out; subst this; rw [idxFrom_hit l k (by assumption)]), rfl⟩
      · have hb : (n == l[k]) = false := beq_eq_false_iff_ne.2 he
        have HE := Lib.hid (idxFrom_next l n k hlt he)
        clear he
        go_wp2
        go_round
        case rel => exact ⟨k + 1, by omega, by go_num, Lib.hid (HE.out ▸ HQ.out)⟩
        case measure => simp [intOf]; omega
    · obtain rfl : k = l.length := by omega
      clear hlt
      go_wp2
      go_ret
      exact ⟨int_ret (by rw [← HQ.out, idxFrom_end]), rfl⟩
/-- Are two lists one? (A plain name.) -/
def eqL {α : Type} [DecidableEq α] (a b : List α) : Bool := decide (a = b)
theorem eqL_self {α : Type} [DecidableEq α] (a : List α) : eqL a a = true := by simp [eqL]
theorem eqL_iff {α : Type} [DecidableEq α] {a b : List α} : eqL a b = true ↔ a = b := by simp [eqL]

set_option maxHeartbeats 400000 in
theorem EqualI_calls (w : World) (S T : Nat → Prop) (v u : Value) (xs ys : List Int) (h1 : Rs kInt w S v xs) (h2 : Rs kInt w T u ys) :
    Calls Try.prog 34 #[v, u] w fun e w' => e = .returned (.bool (eqL xs ys)) ∧ ∃ n, w' = w.drewN n := by
  obtain ⟨A, c, rfl, hl, hc, hz, hrow⟩ := h1
  obtain ⟨A2, c2, rfl, hl2, hc2, hz2, hrow2⟩ := h2
  have HR := Lib.hid hrow
  have HR2 := Lib.hid hrow2
  clear hrow hrow2
  by_cases hle : xs.length = ys.length
  · have hb : ((xs.length : Int) != (ys.length : Int)) = false := by simp [hle]
    have HL := Lib.hid hle
    have hle1 : xs.length ≤ ys.length := by omega
    have hle2 : ys.length ≤ xs.length := by omega
    clear hle
    go_enter Try.func34, Try.ntmps34
    go_wp2
    go_loopw [13] (fun i wr => ∃ k m : Nat, k ≤ xs.length ∧ i = .int .i64 k ∧ Hid (wr = w.drewN m) ∧ Hid (xs.take k = ys.take k)) (fun i _ => xs.length - (intOf i).toNat)
    case atStart => exact ⟨0, 0, Nat.zero_le _, rfl, Lib.hid rfl, Lib.hid rfl⟩
    case round =>
      obtain ⟨k, m, hk, rfl, HW, HT⟩ := hrel
      have hw := HW.out
      subst hw
      by_cases hlt : k < xs.length
      · have hlt2 : k < ys.length := by omega
        obtain ⟨ad, rfl, hcell, _⟩ := HR.out.int hlt
        obtain ⟨ad2, rfl, hcell2, _⟩ := HR2.out.int hlt2
        have hs1 := List.take_succ_eq_append_getElem hlt
        have hs2 := List.take_succ_eq_append_getElem hlt2
        by_cases he : xs[k] = ys[k]
        · have HT' := Lib.hid (show xs.take (k + 1) = ys.take (k + 1) by rw [hs1, hs2, HT.out, he])
          have hq : (xs[k] != ys[k]) = false := by simp [he]
          clear hs1 hs2 he
          have hki : (k : Int) < (xs.length : Int) := by omega
          have hki2 : (k : Int) < (ys.length : Int) := by omega
          go_wp2
          go_quiet (fail)
          go_wp2
          go_roundw
          case rel => exact ⟨k + 1, _, by omega, by go_num, Lib.hid rfl, HT'⟩
          case measure => simp [intOf]; omega
        · have hne : eqL xs ys = false := by
            unfold eqL
            rw [decide_eq_false_iff_not]
            rintro rfl
            exact he rfl
          have HN := Lib.hid hne
          have hq : (xs[k] != ys[k]) = true := bne_iff_ne.2 he
          clear hs1 hs2 he hne
          have hki : (k : Int) < (xs.length : Int) := by omega
          have hki2 : (k : Int) < (ys.length : Int) := by omega
          go_wp2
          go_quiet (fail)
          go_wp2
          go_ret
          exact ⟨bool_ret HN.out.symm, _, World.drewN_drewN _ _ _⟩
      · obtain rfl : k = xs.length := by omega
        have hfin : eqL xs ys = true := by
          have h := HT.out
          rw [List.take_length, HL.out, List.take_length] at h
          exact eqL_iff.2 h
        have HF := Lib.hid hfin
        clear hlt hfin
        go_wp2
        go_ret
        exact ⟨bool_ret HF.out.symm, _, rfl⟩
  · have hb : ((xs.length : Int) != (ys.length : Int)) = true := bne_iff_ne.2 (by omega)
    have hne : eqL xs ys = false := by
      unfold eqL
      rw [decide_eq_false_iff_not]
      rintro rfl
      exact hle rfl
    have HN := Lib.hid hne
    clear hle hne
    go_enter Try.func34, Try.ntmps34
    go_wp2
    go_ret
    exact ⟨bool_ret HN.out.symm, 0, rfl⟩
end Go.Proofs.Ytfflcnlgkbgbhaa
set_option linter.unusedVariables false
set_option linter.unusedSimpArgs false
namespace Go.Proofs.Ytfflcnlgkbgbhaa
open Go.RowKit

structure EntS where
  index : Int
  term : Int
  data : List UInt8
deriving DecidableEq, Inhabited
structure MsgS where
  kind : Int
  from_ : Int
  to_ : Int
  term : Int
  index : Int
  logTerm : Int
  commit : Int
  round : Int
  yes : Bool
  done : Bool
  entries : List EntS
  voters : List Int
  data : List UInt8
deriving DecidableEq, Inhabited

/-- The same kind of value by another name. -/
def Kd.via {α β : Type} (f : β → α) (d : Kd α) : Kd β where
  sz := d.sz
  K := fun w S x cs => d.K w S (f x) cs
  len := d.len
  one := d.one
  mono := d.mono
  move := d.move
  bound := d.bound
theorem opens_via {P : Program} {t : TypeId} {α β : Type} {d : Kd α} (f : β → α) (g : α → β) (hg : ∀ a, f (g a) = a) (h : Opens P t d) : Opens P t (Kd.via f d) :=
  ⟨h.1, fun H enc w base spare held fuel cs x hx hw => by
    obtain ⟨a, ha⟩ := h.2 H enc w base spare held fuel cs x hx hw
    exact ⟨g a, by show d.K w _ (f (g a)) cs; rw [hg]; exact ha⟩⟩
def kEnt : Kd EntS := Kd.via (fun e => (e.index, e.term, e.data, ())) (Kd.pair kInt (Kd.pair kInt (Kd.pair (kSlice kByte) Kd.unit)))
def kMsg : Kd MsgS := Kd.via (fun m => (m.kind, m.from_, m.to_, m.term, m.index, m.logTerm, m.commit, m.round, m.yes, m.done, m.entries, m.voters, m.data, ()))
  (Kd.pair kInt (Kd.pair kInt (Kd.pair kInt (Kd.pair kInt (Kd.pair kInt (Kd.pair kInt (Kd.pair kInt (Kd.pair kInt (Kd.pair kBool (Kd.pair kBool (Kd.pair (kSlice kEnt) (Kd.pair (kSlice kInt) (Kd.pair (kSlice kByte) Kd.unit)))))))))))))
theorem tEnts : ElemT Try.prog 22 71 (.agg #[.int .i64 0, .int .i64 0, .slice none 0 0]) 3 40 := ⟨Try.underlying22, by kernel_rfl, rfl, by omega, by omega⟩
theorem tMsgs : ElemT Try.prog 28 26 (.agg #[.int .i64 0, .int .i64 0, .int .i64 0, .int .i64 0, .int .i64 0, .int .i64 0, .int .i64 0, .int .i64 0, .bool false, .bool false, .slice none 0 0, .slice none 0 0, .slice none 0 0]) 13 144 := ⟨Try.underlying28, by kernel_rfl, rfl, by omega, by omega⟩
theorem oBool : Opens Try.prog 4 kBool := opens_bool Try.underlying4 (by kernel_rfl)
theorem oInts : Opens Try.prog 23 (kSlice kInt) := opens_slice Try.underlying23 (by kernel_rfl) oInt (by decide) (of_decide_eq_true (by kernel_rfl))
theorem oEnt : Opens Try.prog 71 kEnt := opens_via _ (fun a => ⟨a.1, a.2.1, a.2.2.1⟩) (fun _ => rfl)
  (opens_struct Try.underlying71 (by kernel_rfl) (opensF_cons rfl oInt (opensF_cons rfl oInt (opensF_cons rfl oBytes opensF_nil))))
theorem oEnts : Opens Try.prog 22 (kSlice kEnt) := opens_slice Try.underlying22 (by kernel_rfl) oEnt (by decide) (of_decide_eq_true (by kernel_rfl))
theorem oMsg : Opens Try.prog 26 kMsg := opens_via _ (fun (a, b, c, d, e, f, g, h, i, j, k, l, m, _) => ⟨a, b, c, d, e, f, g, h, i, j, k, l, m⟩) (fun _ => rfl)
  (opens_struct Try.underlying26 (by kernel_rfl) (opensF_cons rfl oInt (opensF_cons rfl oInt (opensF_cons rfl oInt (opensF_cons rfl oInt (opensF_cons rfl oInt (opensF_cons rfl oInt (opensF_cons rfl oInt (opensF_cons rfl oInt (opensF_cons rfl oBool (opensF_cons rfl oBool (opensF_cons rfl oEnts (opensF_cons rfl oInts (opensF_cons rfl oBytes opensF_nil))))))))))))))

/-- A message's numbers are ints. -/
structure MsgI (m : MsgS) : Prop where
  kind : I64 m.kind
  from_ : I64 m.from_
  to_ : I64 m.to_
  term : I64 m.term
  index : I64 m.index
  logTerm : I64 m.logTerm
  commit : I64 m.commit
  round : I64 m.round

/-- The cells of a message. -/
def msgC (m : MsgS) (ve vv vd : Value) : Array Value := #[.int .i64 m.kind, .int .i64 m.from_, .int .i64 m.to_, .int .i64 m.term, .int .i64 m.index, .int .i64 m.logTerm, .int .i64 m.commit, .int .i64 m.round, .bool m.yes, .bool m.done, ve, vv, vd]

/-- A message as a value. -/
def MsgV (w : World) (S : Nat → Prop) (v : Value) (m : MsgS) : Prop :=
  ∃ ve vv vd, v = .agg (msgC m ve vv vd) ∧ Rs kEnt w S ve m.entries ∧ Rs kInt w S vv m.voters ∧ Rs kByte w S vd m.data ∧ MsgI m

section
variable {w w' : World} {S S' : Nat → Prop}
theorem kMsg_iff {m : MsgS} {cs : List Value} : kMsg.K w S m cs ↔ ∃ ve vv vd, cs = (msgC m ve vv vd).toList ∧ Rs kEnt w S ve m.entries ∧ Rs kInt w S vv m.voters ∧ Rs kByte w S vd m.data ∧ MsgI m := by
  constructor
  · rintro ⟨_, _, rfl, ⟨rfl, h0⟩, _, _, rfl, ⟨rfl, h1⟩, _, _, rfl, ⟨rfl, h2⟩, _, _, rfl, ⟨rfl, h3⟩, _, _, rfl, ⟨rfl, h4⟩, _, _, rfl, ⟨rfl, h5⟩, _, _, rfl, ⟨rfl, h6⟩, _, _, rfl, ⟨rfl, h7⟩, _, _, rfl, ⟨rfl, _⟩, _, _, rfl, ⟨rfl, _⟩, _, _, rfl, ⟨ve, rfl, he⟩, _, _, rfl, ⟨vv, rfl, hv⟩, _, _, rfl, ⟨vd, rfl, hd⟩, rfl⟩
    exact ⟨ve, vv, vd, rfl, he, hv, hd, ⟨h0, h1, h2, h3, h4, h5, h6, h7⟩⟩
  · rintro ⟨ve, vv, vd, rfl, he, hv, hd, ⟨h0, h1, h2, h3, h4, h5, h6, h7⟩⟩
    exact ⟨_, _, rfl, ⟨rfl, h0⟩, _, _, rfl, ⟨rfl, h1⟩, _, _, rfl, ⟨rfl, h2⟩, _, _, rfl, ⟨rfl, h3⟩, _, _, rfl, ⟨rfl, h4⟩, _, _, rfl, ⟨rfl, h5⟩, _, _, rfl, ⟨rfl, h6⟩, _, _, rfl, ⟨rfl, h7⟩, _, _, rfl, ⟨rfl, trivial⟩, _, _, rfl, ⟨rfl, trivial⟩, _, _, rfl, ⟨ve, rfl, he⟩, _, _, rfl, ⟨vv, rfl, hv⟩, _, _, rfl, ⟨vd, rfl, hd⟩, rfl⟩
theorem kEnt_iff {e : EntS} {cs : List Value} : kEnt.K w S e cs ↔ ∃ vd, cs = [.int .i64 e.index, .int .i64 e.term, vd] ∧ Rs kByte w S vd e.data ∧ I64 e.index ∧ I64 e.term := by
  constructor
  · rintro ⟨_, _, rfl, ⟨rfl, h0⟩, _, _, rfl, ⟨rfl, h1⟩, _, _, rfl, ⟨vd, rfl, hd⟩, rfl⟩
    exact ⟨vd, rfl, hd, h0, h1⟩
  · rintro ⟨vd, rfl, hd, h0, h1⟩
    exact ⟨_, _, rfl, ⟨rfl, h0⟩, _, _, rfl, ⟨rfl, h1⟩, _, _, rfl, ⟨vd, rfl, hd⟩, rfl⟩
theorem MsgV.keep {v : Value} {m : MsgS} (h : MsgV w S v m) (hk : ∀ b, S b → b < w.heap.size → w'.heap[b]? = w.heap[b]?) : MsgV w' S v m := by
  obtain ⟨ve, vv, vd, rfl, h1, h2, h3, h4⟩ := h
  exact ⟨ve, vv, vd, rfl, h1.keep hk, h2.keep hk, h3.keep hk, h4⟩
theorem MsgV.ext {v : Value} {m : MsgS} (h : MsgV w S v m) (he : Ext w w') : MsgV w' S v m := h.keep fun b _ hb => he.block b hb
theorem MsgV.mono {v : Value} {m : MsgS} (h : MsgV w S v m) (hS : ∀ b, S b → S' b) : MsgV w S' v m := by
  obtain ⟨ve, vv, vd, rfl, h1, h2, h3, h4⟩ := h
  exact ⟨ve, vv, vd, rfl, h1.mono hS, h2.mono hS, h3.mono hS, h4⟩
theorem MsgV.bound {v : Value} {m : MsgS} (h : MsgV w S v m) : MsgV w (fun b => S b ∧ b < w.heap.size) v m := by
  obtain ⟨ve, vv, vd, rfl, h1, h2, h3, h4⟩ := h
  exact ⟨ve, vv, vd, rfl, h1.bound, h2.bound, h3.bound, h4⟩
theorem MsgV.under {v : Value} {m : MsgS} (h : MsgV w S v m) : MsgV w (· < w.heap.size) v m := h.bound.mono fun _ hb => hb.2
/-- A message's form: every slice laid open. -/
theorem MsgV.form {v : Value} {m : MsgS} (h : MsgV w S v m) : ∃ Ae ce Av cv Ad cd, v = .agg (msgC m (.slice Ae m.entries.length ce) (.slice Av m.voters.length cv) (.slice Ad m.data.length cd)) ∧
    Rs kEnt w S (.slice Ae m.entries.length ce) m.entries ∧ Rs kInt w S (.slice Av m.voters.length cv) m.voters ∧ Rs kByte w S (.slice Ad m.data.length cd) m.data ∧ MsgI m := by
  obtain ⟨ve, vv, vd, rfl, h1, h2, h3, h4⟩ := h
  obtain ⟨Ae, ce, e1, _⟩ := id h1
  obtain ⟨Av, cv, e2, _⟩ := id h2
  obtain ⟨Ad, cd, e3, _⟩ := id h3
  subst e1; subst e2; subst e3
  exact ⟨Ae, ce, Av, cv, Ad, cd, rfl, h1, h2, h3, h4⟩
/-- An entry of a row: its three cells, as a load of the whole asks for them, and one by one. -/
theorem Row.ent {A : Option Addr} {es : List EntS} (h : Row kEnt w S A es) {j : Nat} (hj : j < es.length) : ∃ ad Ad cd, A = some ad ∧ w.cell? (ad.add (j * 3)) = some (.int .i64 es[j].index) ∧ w.cell? ⟨(ad.add (j * 3)).block, (ad.add (j * 3)).off + 1, none⟩ = some (.int .i64 es[j].term) ∧
    w.cell? ⟨(ad.add (j * 3)).block, (ad.add (j * 3)).off + 2, none⟩ = some (.slice Ad es[j].data.length cd) ∧ Rs kByte w S (.slice Ad es[j].data.length cd) es[j].data ∧ I64 es[j].index ∧ I64 es[j].term := by
  obtain ⟨ad, cs, rfl, _, _, hK, hc⟩ := h.get hj
  obtain ⟨vd, rfl, hd, h0, h1⟩ := kEnt_iff.1 hK
  obtain ⟨Ad, cd, e, _⟩ := id hd
  subst e
  refine ⟨ad, Ad, cd, rfl, hc 0 _ rfl, ?_, ?_, hd, h0, h1⟩
  · have h := hc 1 _ rfl
    rw [← h, ← add_of_add]; rfl
  · have h := hc 2 _ rfl
    rw [← h, ← add_of_add]; rfl
end
end Go.Proofs.Ytfflcnlgkbgbhaa
set_option linter.unusedVariables false
set_option linter.unusedSimpArgs false
namespace Go.Proofs.Ytfflcnlgkbgbhaa

/-- Do numbers rise, from behind one on, up to 6? -/
def risF : Int → List Int → Bool
  | _, [] => true
  | a, x :: l => decide (a < x) && decide (x ≤ 6) && risF x l
/-- May these be voters? -/
def chk (l : List Int) : Bool := risF (-1) l && !l.isEmpty
/-- The number that stands ahead of a place. -/
def prv (l : List Int) : Nat → Int
  | 0 => -1
  | k + 1 => l.getD k 0
theorem risF_cons (a x : Int) (l : List Int) : risF a (x :: l) = (decide (a < x) && decide (x ≤ 6) && risF x l) := rfl
theorem prv_succ (l : List Int) (k : Nat) (hk : k < l.length) : prv l (k + 1) = l[k] := by
  simp [prv, List.getD, hk]
theorem chk_nil : chk [] = false := rfl
theorem chk_pos (l : List Int) (h : 0 < l.length) : chk l = risF (-1) l := by
  cases l with
  | nil => simp at h
  | cons x l => simp [chk]
end Go.Proofs.Ytfflcnlgkbgbhaa
set_option linter.unusedVariables false
set_option linter.unusedSimpArgs false
namespace Go.Proofs.Ytfflcnlgkbgbhaa
open Go.RowKit

/-- A check's answer. -/
def chkE (l : List Int) : Int := if chk l = true then 0 else 100
theorem chkE_yes {l : List Int} (h : chk l = true) : chkE l = 0 := if_pos h
theorem chkE_no {l : List Int} (h : chk l = false) : chkE l = 100 := if_neg (by rw [h]; decide)

set_option maxHeartbeats 1000000 in
theorem Check_calls (w : World) (S : Nat → Prop) (v : Value) (l : List Int) (hr : Rs kInt w S v l) :
    Calls Try.prog 66 #[v] w fun e w' => e = .returned (.int .i64 (chkE l)) ∧ w = w' := by
  obtain ⟨A, c, rfl, hl, hc, hz, hrow⟩ := hr
  have HR := Lib.hid hrow
  clear hrow
  go_enter Try.func66, Try.ntmps66
  go_wp2
  go_loop [7] (fun i => ∃ k : Nat, k ≤ l.length ∧ i = .int .i64 k ∧ -1 ≤ prv l k ∧ Hid (risF (prv l k) (l.drop k) = risF (-1) l)) (fun i => l.length - (intOf i).toNat)
  case atStart => exact ⟨0, Nat.zero_le _, rfl, by simp [prv], Lib.hid rfl⟩
  case round =>
    obtain ⟨k, hk, rfl, hp, HQ⟩ := hrel
    by_cases hlt : k < l.length
    · obtain ⟨ad, rfl, hcell, _⟩ := HR.out.int hlt
      have hd : l.drop k = l[k] :: l.drop (k + 1) := List.drop_eq_getElem_cons hlt
      have hq := HQ.out
      rw [hd, risF_cons] at hq
      by_cases hgood : prv l k < l[k] ∧ l[k] ≤ 6
      · have HQ' : Hid (risF (prv l (k + 1)) (l.drop (k + 1)) = risF (-1) l) := Lib.hid (by rw [prv_succ l k hlt, ← hq]; simp [hgood.1, hgood.2])
        have hp' : -1 ≤ prv l (k + 1) := by rw [prv_succ l k hlt]; omega
        have HP := Lib.hid hp'
        obtain ⟨h1, h2⟩ := hgood
        have h3 : decide (l[k] < 0) = false := decide_eq_false (by omega)
        have h4 : decide (7 ≤ l[k]) = false := decide_eq_false (by omega)
        by_cases h0 : k = 0
        · have hs : decide (0 < k) = false := decide_eq_false (by omega)
          clear hd hq hp' h0 h1 h2
          generalize l[k] = x at h3 h4 hcell
          go_wp2
          go_round
          case rel => exact ⟨k + 1, by omega, by go_num, HP.out, HQ'⟩
          case measure => simp [intOf]; omega
        · have h1' : l[k - 1] < l[k] := by
            have : prv l k = l[k - 1] := by
              obtain ⟨j, rfl⟩ : ∃ j, k = j + 1 := ⟨k - 1, by omega⟩
              exact prv_succ l j (by omega)
            omega
          obtain ⟨ad', ha', hcell', _⟩ := HR.out.int (show k - 1 < l.length by omega)
          injection ha' with ha'; subst ha'
          have h5 : decide (l[k] ≤ l[k - 1]) = false := decide_eq_false (by omega)
          have hs : decide (0 < k) = true := decide_eq_true (by omega)
          have hk1 : 0 < k := by omega
          clear hd hq hp' hp h0 h1 h2 h1'
          generalize l[k] = x at h3 h4 h5 hcell
          generalize l[k - 1] = y at h5 hcell'
          go_wp2
          go_round
          case rel => exact ⟨k + 1, by omega, by go_num, HP.out, HQ'⟩
          case measure => simp [intOf]; omega
      · have hno : chk l = false := by
          rw [chk_pos l (by omega), ← hq]
          by_cases h1 : prv l k < l[k]
          · have : ¬ l[k] ≤ 6 := fun h => hgood ⟨h1, h⟩
            simp [this]
          · simp [h1]
        have HN := Lib.hid (chkE_no hno)
        have hgood' : ¬ (prv l k < l[k] ∧ l[k] ≤ 6) := hgood
        clear hd hq hno hgood HQ
        by_cases h3 : l[k] < 0
        · have h3 : decide (l[k] < 0) = true := decide_eq_true (by omega)
          clear hgood' hp
          generalize l[k] = x at h3 hcell
          go_wp2
          go_ret
          exact ⟨int_ret HN.out.symm, rfl⟩
        · have h3' : decide (l[k] < 0) = false := decide_eq_false (by omega)
          by_cases h4 : 7 ≤ l[k]
          · have h4 : decide (7 ≤ l[k]) = true := decide_eq_true (by omega)
            clear hgood' hp h3
            generalize l[k] = x at h3' h4 hcell
            go_wp2
            go_ret
            exact ⟨int_ret HN.out.symm, rfl⟩
          · have h4' : decide (7 ≤ l[k]) = false := decide_eq_false (by omega)
            have h0 : k ≠ 0 := by
              rintro rfl
              simp only [prv] at hgood'
              omega
            have h1' : l[k] ≤ l[k - 1] := by
              have : prv l k = l[k - 1] := by
                obtain ⟨j, rfl⟩ : ∃ j, k = j + 1 := ⟨k - 1, by omega⟩
                exact prv_succ l j (by omega)
              omega
            obtain ⟨ad', ha', hcell', _⟩ := HR.out.int (show k - 1 < l.length by omega)
            injection ha' with ha'; subst ha'
            have h5 : decide (l[k] ≤ l[k - 1]) = true := decide_eq_true (by omega)
            have hs : decide (0 < k) = true := decide_eq_true (by omega)
            have hk1 : 0 < k := by omega
            clear hp h0 h1' hgood' h3 h4
            generalize l[k] = x at h3' h4' h5 hcell
            generalize l[k - 1] = y at h5 hcell'
            go_wp2
            go_ret
            exact ⟨int_ret HN.out.symm, rfl⟩
    · obtain rfl : k = l.length := by omega
      clear hlt
      by_cases h0 : l.length = 0
      · have hno : chkE l = 100 := chkE_no (by rw [List.eq_nil_of_length_eq_zero h0]; rfl)
        have HN := Lib.hid hno
        have hb : ((l.length : Int) == 0) = true := beq_iff_eq.2 (by omega)
        clear hno h0 hp
        go_wp2
        go_ret
        exact ⟨int_ret HN.out.symm, rfl⟩
      · have hyes : chkE l = 0 := chkE_yes (by
          rw [chk_pos l (by omega), ← HQ.out, List.drop_length]; rfl)
        have HN := Lib.hid hyes
        have hb : ((l.length : Int) == 0) = false := beq_eq_false_iff_ne.2 (by omega)
        clear hyes h0 hp
        go_wp2
        go_ret
        exact ⟨int_ret HN.out.symm, rfl⟩

set_option maxHeartbeats 1000000 in
theorem RefCheck_calls (w : World) (S : Nat → Prop) (v : Value) (l : List Int) (hr : Rs kInt w S v l) :
    Calls Try.prog 72 #[v] w fun e w' => e = .returned (.int .i64 (chkE l)) ∧ w = w' := by
  obtain ⟨A, c, rfl, hl, hc, hz, hrow⟩ := hr
  have HR := Lib.hid hrow
  clear hrow
  go_enter Try.func72, Try.ntmps72
  go_wp2
  go_loop [3, 8] (fun last i => ∃ (k : Nat) (a : Int), k ≤ l.length ∧ i = .int .i64 k ∧ last = .int .i64 a ∧ -1 ≤ a ∧ a ≤ 6 ∧ Hid (a < 0 ↔ k = 0) ∧ Hid (risF a (l.drop k) = risF (-1) l)) (fun _ i => l.length - (intOf i).toNat)
  case atStart => exact ⟨0, -1, Nat.zero_le _, rfl, rfl, by omega, by omega, Lib.hid (by omega), Lib.hid rfl⟩
  case round =>
    obtain ⟨k, a, hk, rfl, rfl, ha, ha6, HK, HQ⟩ := hrel
    by_cases hlt : k < l.length
    · obtain ⟨ad, rfl, hcell, _⟩ := HR.out.int hlt
      have hd : l.drop k = l[k] :: l.drop (k + 1) := List.drop_eq_getElem_cons hlt
      have hq := HQ.out
      rw [hd, risF_cons] at hq
      generalize l[k] = x at hcell hq
      clear hd HQ
      by_cases h1 : x ≤ a
      · have hno : chk l = false := by
          rw [chk_pos l (by omega), ← hq]
          have : ¬ a < x := by omega
          simp [this]
        have HN := Lib.hid (chkE_no hno)
        have hb : decide (x ≤ a) = true := decide_eq_true h1
        clear hno hq h1
        go_wp2
        go_ret
        exact ⟨int_ret HN.out.symm, rfl⟩
      · have hb : decide (x ≤ a) = false := decide_eq_false h1
        by_cases h2 : 6 < x
        · have hno : chk l = false := by
            rw [chk_pos l (by omega), ← hq]
            have : ¬ x ≤ 6 := by omega
            simp [this]
          have HN := Lib.hid (chkE_no hno)
          have hb2 : decide (6 < x) = true := decide_eq_true h2
          clear hno hq h1 h2
          go_wp2
          go_ret
          exact ⟨int_ret HN.out.symm, rfl⟩
        · have hb2 : decide (6 < x) = false := decide_eq_false h2
          have hx : 0 ≤ x := by omega
          have hx6 : x ≤ 6 := by omega
          have HQ : Hid (risF x (l.drop (k + 1)) = risF (-1) l) := Lib.hid (by
            rw [← hq]
            have h1' : a < x := by omega
            have h2' : x ≤ 6 := by omega
            simp [h1', h2'])
          clear hq h1 h2
          go_wp2
          go_round
          case rel => exact ⟨k + 1, x, by omega, by go_num, rfl, by omega, hx6, Lib.hid (by omega), HQ⟩
          case measure => simp [intOf]; omega
    · obtain rfl : k = l.length := by omega
      clear hlt
      by_cases h0 : l.length = 0
      · have hno : chkE l = 100 := chkE_no (by rw [List.eq_nil_of_length_eq_zero h0]; rfl)
        have HN := Lib.hid hno
        have hb : decide (a < 0) = true := decide_eq_true (by have := HK.out; omega)
        clear hno h0 ha
        go_wp2
        go_ret
        exact ⟨int_ret HN.out.symm, rfl⟩
      · have hyes : chkE l = 0 := chkE_yes (by
          rw [chk_pos l (by omega), ← HQ.out, List.drop_length]; rfl)
        have HN := Lib.hid hyes
        have hb : decide (a < 0) = false := decide_eq_false (by have := HK.out; omega)
        clear hyes h0 ha
        go_wp2
        go_ret
        exact ⟨int_ret HN.out.symm, rfl⟩
end Go.Proofs.Ytfflcnlgkbgbhaa
set_option linter.unusedVariables false
set_option linter.unusedSimpArgs false
namespace Go.Proofs.Ytfflcnlgkbgbhaa

/-- A number's higher groups, each with the mark that more follow. -/
def hi (n : Nat) : List UInt8 := if h : n = 0 then [] else hi (n / 128) ++ [byt (128 + n % 128)]
termination_by n
decreasing_by omega
/-- A number's bytes. -/
def digs (n : Nat) : List UInt8 := hi (n / 128) ++ [byt (n % 128)]
theorem hi_zero : hi 0 = [] := by rw [hi]; simp
theorem hi_pos (n : Nat) (h : 0 < n) : hi n = hi (n / 128) ++ [byt (128 + n % 128)] := by rw [hi]; rw [dif_neg (by omega)]
theorem hi_len (j : Nat) : ∀ n, n < 128 ^ j → (hi n).length ≤ j := by
  induction j with
  | zero => intro n h; have : n = 0 := by simpa using h
            subst this; simp [hi_zero]
  | succ j ih =>
    intro n h
    rcases Nat.eq_zero_or_pos n with h0 | h0
    · subst h0; simp [hi_zero]
    · rw [hi_pos n h0, List.length_append, List.length_singleton]
      have := ih (n / 128) (Nat.div_lt_of_lt_mul (by rw [Nat.pow_succ] at h; omega))
      omega
theorem digs_len (n : Nat) (h : n ≤ 9223372036854775807) : 1 ≤ (digs n).length ∧ (digs n).length ≤ 9 := by
  unfold digs
  rw [List.length_append, List.length_singleton]
  have := hi_len 8 (n / 128) (by omega)
  omega
end Go.Proofs.Ytfflcnlgkbgbhaa
set_option linter.unusedVariables false
set_option linter.unusedSimpArgs false
namespace Go.Proofs.Ytfflcnlgkbgbhaa

/-- The number at the beginning of bytes, how many bytes it has, the error. -/
def rdGo : Nat → Nat → List UInt8 → Nat × Nat × Nat
  | _, _, [] => (0, 0, 2)
  | i, n, x :: l => if i = 0 ∧ x.toNat = 128 then (0, 0, 10) else if i = 9 then (0, 0, 5) else
    if x.toNat < 128 then (128 * n + x.toNat % 128, i + 1, 0) else rdGo (i + 1) (128 * n + x.toNat % 128) l
def rd (l : List UInt8) : Nat × Nat × Nat := rdGo 0 0 l

theorem rdGo_bd (l : List UInt8) : ∀ (i n : Nat), n < 128 ^ i → i ≤ 9 → (rdGo i n l).1 < 9223372036854775808 ∧ (rdGo i n l).2.1 ≤ i + l.length ∧ ((rdGo i n l).2.2 ≠ 0 → (rdGo i n l).1 = 0 ∧ (rdGo i n l).2.1 = 0) ∧ (rdGo i n l).2.2 ≤ 10 := by
  induction l with
  | nil => intro i n _ _; simp [rdGo]
  | cons x l ih =>
    intro i n hn hi
    unfold rdGo
    split
    · simp
    split
    · simp
    rename_i h9
    have hx : x.toNat % 128 < 128 := by omega
    have hp : 128 ^ i * 128 ≤ 128 ^ 9 := by
      rw [← Nat.pow_succ]; exact Nat.pow_le_pow_right (by omega) (by omega)
    have h9' : (128 : Nat) ^ 9 = 9223372036854775808 := by decide
    split
    · refine ⟨by show 128 * n + x.toNat % 128 < _; omega, by simp, by simp, by simp⟩
    · have := ih (i + 1) (128 * n + x.toNat % 128) (by rw [Nat.pow_succ]; omega) (by omega)
      refine ⟨this.1, by simp; omega, this.2.2.1, this.2.2.2⟩
theorem rd_bd (l : List UInt8) : (rd l).1 < 9223372036854775808 ∧ (rd l).2.1 ≤ l.length ∧ ((rd l).2.2 ≠ 0 → (rd l).1 = 0 ∧ (rd l).2.1 = 0) ∧ (rd l).2.2 ≤ 10 := by
  have := rdGo_bd l 0 0 (by simp) (by omega)
  simpa [rd] using this

/-- A scan: its bytes, how many were read, the first error. -/
structure ScS where
  b : List UInt8
  at_ : Nat
  e : Nat

def ScS.number (s : ScS) : Nat × ScS :=
  if s.e = 0 then ((rd (s.b.drop s.at_)).1, ⟨s.b, s.at_ + (rd (s.b.drop s.at_)).2.1, (rd (s.b.drop s.at_)).2.2⟩) else (0, s)
def ScS.text (s : ScS) (most : Int) : List UInt8 × ScS :=
  if s.e = 0 then
    if (rd (s.b.drop s.at_)).2.2 = 0 then
      if (most.toNat < (rd (s.b.drop s.at_)).1) then ([], ⟨s.b, s.at_, 4⟩)
      else if s.b.length < s.at_ + (rd (s.b.drop s.at_)).2.1 + (rd (s.b.drop s.at_)).1 then ([], ⟨s.b, s.at_, 2⟩)
      else ((s.b.drop (s.at_ + (rd (s.b.drop s.at_)).2.1)).take (rd (s.b.drop s.at_)).1, ⟨s.b, s.at_ + (rd (s.b.drop s.at_)).2.1 + (rd (s.b.drop s.at_)).1, 0⟩)
    else ([], ⟨s.b, s.at_, (rd (s.b.drop s.at_)).2.2⟩)
  else ([], s)
def ScS.flag (s : ScS) : Bool × ScS :=
  if s.e = 0 then
    if (rd (s.b.drop s.at_)).2.2 = 0 then
      if 1 < (rd (s.b.drop s.at_)).1 then (false, ⟨s.b, s.at_, 10⟩) else (decide ((rd (s.b.drop s.at_)).1 = 1), ⟨s.b, s.at_ + (rd (s.b.drop s.at_)).2.1, 0⟩)
    else (false, ⟨s.b, s.at_, (rd (s.b.drop s.at_)).2.2⟩)
  else (false, s)
def ScS.end_ (s : ScS) : ScS := if s.e = 0 ∧ s.at_ < s.b.length then ⟨s.b, s.at_, 3⟩ else s
def ScS.ok (s : ScS) : Prop := s.at_ ≤ s.b.length ∧ s.e ≤ 10
theorem ScS.ok_number {s : ScS} (h : s.ok) : s.number.2.ok ∧ s.number.1 < 9223372036854775808 := by
  unfold ScS.number
  split
  · have := rd_bd (s.b.drop s.at_)
    rw [List.length_drop] at this
    exact ⟨⟨by have := h.1; show s.at_ + (rd (s.b.drop s.at_)).2.1 ≤ s.b.length; omega, this.2.2.2⟩, this.1⟩
  · exact ⟨h, by show (0 : Nat) < _; omega⟩
end Go.Proofs.Ytfflcnlgkbgbhaa
set_option linter.unusedVariables false
set_option linter.unusedSimpArgs false
namespace Go.Proofs.Ytfflcnlgkbgbhaa

/-- One bit of a sum goes on. -/
def crcBit (c : Nat) : Nat := if 4294967296 ≤ 2 * c then (2 * c - 4294967296) ^^^ 79764919 else 2 * c
def crcBits : Nat → Nat → Nat
  | 0, c => c
  | i + 1, c => crcBit (crcBits i c)
def crcByte (c : Nat) (x : UInt8) : Nat := crcBits 8 (c ^^^ (x.toNat * 16777216))
def crcFrom (c : Nat) (l : List UInt8) : Nat := l.foldl crcByte c
def crc (l : List UInt8) : Nat := crcFrom 4294967295 l

theorem xor_lt {a b : Nat} (ha : a < 4294967296) (hb : b < 4294967296) : a ^^^ b < 4294967296 := by
  have := Nat.xor_lt_two_pow (n := 32) (x := a) (y := b) (by omega) (by omega)
  omega
theorem crcBit_lt {c : Nat} (h : c < 4294967296) : crcBit c < 4294967296 := by
  unfold crcBit
  split
  · exact xor_lt (by omega) (by omega)
  · omega
theorem crcBits_lt {c : Nat} (h : c < 4294967296) : ∀ i, crcBits i c < 4294967296
  | 0 => h
  | i + 1 => crcBit_lt (crcBits_lt h i)
theorem crc_in {c : Nat} (x : UInt8) (h : c < 4294967296) : c ^^^ (x.toNat * 16777216) < 4294967296 := xor_lt h (by have := x.toNat_lt; omega)
theorem crcByte_lt {c : Nat} (x : UInt8) (h : c < 4294967296) : crcByte c x < 4294967296 := crcBits_lt (crc_in x h) 8
theorem crcFrom_cons (x : UInt8) (l : List UInt8) (c : Nat) : crcFrom c (x :: l) = crcFrom (crcByte c x) l := by unfold crcFrom; rw [List.foldl_cons]
theorem crcFrom_lt (l : List UInt8) : ∀ {c : Nat}, c < 4294967296 → crcFrom c l < 4294967296 := by
  induction l with
  | nil => intro c h; exact h
  | cons x l ih =>
    intro c h
    rw [crcFrom_cons]
    exact ih (crcByte_lt x h)
theorem crc_lt (l : List UInt8) : crc l < 4294967296 := by unfold crc; exact crcFrom_lt l (by omega)
theorem crcFrom_append (l m : List UInt8) (c : Nat) : crcFrom c (l ++ m) = crcFrom (crcFrom c l) m := by simp [crcFrom]
theorem crcFrom_snoc (l : List UInt8) (x : UInt8) (c : Nat) : crcFrom c (l ++ [x]) = crcByte (crcFrom c l) x := by simp [crcFrom]
theorem crcBits_succ (i c : Nat) : crcBits (i + 1) c = crcBit (crcBits i c) := rfl
end Go.Proofs.Ytfflcnlgkbgbhaa
set_option linter.unusedVariables false
set_option linter.unusedSimpArgs false
namespace Go.Proofs.Ytfflcnlgkbgbhaa

/-- A sum's four bytes. -/
def be4 (c : Nat) : List UInt8 := [byt (c / 16777216), byt (c / 65536), byt (c / 256), byt c]
theorem be4_len (c : Nat) : (be4 c).length = 4 := rfl
/-- What a payload's sum is of. -/
def body (p : List UInt8) : List UInt8 := byt 93 :: (digs p.length ++ p)
def rcd (p : List UInt8) : List UInt8 := body p ++ be4 (crc (body p))
def record (p : List UInt8) : List UInt8 × Nat := if 65536 < p.length then ([], 4) else (rcd p, 0)
/-- The record with which bytes begin. -/
def pick (b : List UInt8) : List UInt8 × Nat × Nat :=
  if b.length = 0 then ([], 0, 2) else if b[0]? ≠ some (byt 93) then ([], 0, 10) else
  if (rd (b.drop 1)).2.2 ≠ 0 then ([], 0, (rd (b.drop 1)).2.2) else
  if 65536 < (rd (b.drop 1)).1 then ([], 0, 4) else
  if b.length < 1 + (rd (b.drop 1)).2.1 + (rd (b.drop 1)).1 + 4 then ([], 0, 2) else
  if (b.drop (1 + (rd (b.drop 1)).2.1 + (rd (b.drop 1)).1)).take 4 ≠ be4 (crc (b.take (1 + (rd (b.drop 1)).2.1 + (rd (b.drop 1)).1))) then ([], 0, 11) else
  ((b.drop (1 + (rd (b.drop 1)).2.1)).take (rd (b.drop 1)).1, 1 + (rd (b.drop 1)).2.1 + (rd (b.drop 1)).1 + 4, 0)
end Go.Proofs.Ytfflcnlgkbgbhaa
set_option linter.unusedVariables false
set_option linter.unusedSimpArgs false
namespace Go.Proofs.Ytfflcnlgkbgbhaa

def nodeB (n : Int) : Bool := decide (0 ≤ n) && decide (n < 7)
def inB (n : Int) : Bool := decide (0 ≤ n) && decide (n ≤ 1099511627776)
def withinB (l : List Int) : Bool := l.all inB
/-- The entries' part of a check, begun behind an index and a term. -/
def entB (T i t : Int) (e : EntS) : Bool := decide (e.index = i + 1) && inB e.index && decide (max t 1 ≤ e.term) && decide (e.term ≤ T) && decide (e.data.length ≤ 4096)
def entsB (T : Int) : Int → Int → List EntS → Bool
  | _, _, [] => true
  | i, t, e :: l => entB T i t e && entsB T e.index e.term l
/-- What holds of every message. -/
def headB (m : MsgS) : Bool := nodeB m.from_ && (nodeB m.to_ && (decide (m.from_ ≠ m.to_) && (withinB [m.term, m.index, m.logTerm, m.commit, m.round] && decide (0 < m.term))))
/-- Of its kind. -/
def kindB (m : MsgS) : Bool :=
  if m.kind = 1 ∨ m.kind = 2 ∨ m.kind = 4 ∨ m.kind = 6 then headB m
  else if m.kind = 3 then headB m && (decide (m.index = 0) == decide (m.logTerm = 0)) && decide (m.logTerm ≤ m.term)
  else if m.kind = 5 then headB m && decide (0 < m.index) && decide (0 < m.logTerm) && decide (m.logTerm ≤ m.term) && chk m.voters
  else false
def lenB (m : MsgS) : Bool := kindB m && decide (m.entries.length ≤ 8) && decide (m.data.length ≤ 512)
def emptyB (m : MsgS) : Bool := lenB m && (decide (m.kind = 3) || decide (m.entries.length = 0)) && (decide (m.kind = 5) || decide (m.voters.length = 0)) && (decide (m.kind = 5) || decide (m.data.length = 0))
def chkM (m : MsgS) : Bool := emptyB m && entsB m.term m.index m.logTerm m.entries
def chkME (m : MsgS) : Int := if chkM m = true then 0 else 122
theorem chkME_yes {m : MsgS} (h : chkM m = true) : chkME m = 0 := if_pos h
theorem chkME_no {m : MsgS} (h : chkM m = false) : chkME m = 122 := if_neg (by rw [h]; decide)

/-! ### bytes -/
def encNums : List Int → List UInt8
  | [] => []
  | n :: l => digs n.toNat ++ encNums l
def encEnts : List EntS → List UInt8
  | [] => []
  | e :: l => digs e.term.toNat ++ (digs e.data.length ++ (e.data ++ encEnts l))
def msgNums (m : MsgS) : List Int := [m.kind, m.from_, m.to_, m.term, m.index, m.logTerm, m.commit, m.round]
def encM (m : MsgS) : List UInt8 :=
  encNums (msgNums m) ++ (digs m.yes.toNat ++ (digs m.done.toNat ++ (digs m.entries.length ++ (encEnts m.entries ++ (digs m.voters.length ++ (encNums m.voters ++ (digs m.data.length ++ m.data)))))))
theorem encNums_append (l r : List Int) : encNums (l ++ r) = encNums l ++ encNums r := by
  induction l with
  | nil => rfl
  | cons n l ih => simp [encNums, ih]
theorem encEnts_append (l r : List EntS) : encEnts (l ++ r) = encEnts l ++ encEnts r := by
  induction l with
  | nil => rfl
  | cons n l ih => simp [encEnts, ih]
theorem encNums_snoc (l : List Int) (n : Int) : encNums (l ++ [n]) = encNums l ++ digs n.toNat := by rw [encNums_append]; simp [encNums]
theorem encEnts_snoc (l : List EntS) (e : EntS) : encEnts (l ++ [e]) = encEnts l ++ digs e.term.toNat ++ digs e.data.length ++ e.data := by rw [encEnts_append]; simp [encEnts]
/-- A message put: its record, or why there is none. -/
def putM (m : MsgS) : List UInt8 × Nat := if chkM m = true then record (encM m) else ([], 122)
theorem encNums_len (l : List Int) (h : ∀ n ∈ l, n ≤ 9223372036854775807) : (encNums l).length ≤ 9 * l.length := by
  induction l with
  | nil => simp [encNums]
  | cons n l ih =>
    have h1 := (digs_len n.toNat (by have := h n (by simp); omega)).2
    have h2 := ih fun x hx => h x (by simp [hx])
    simp only [encNums, List.length_append, List.length_cons]; omega
theorem encEnts_len (l : List EntS) (h : ∀ e ∈ l, e.term ≤ 9223372036854775807 ∧ e.data.length ≤ 4096) : (encEnts l).length ≤ 4200 * l.length := by
  induction l with
  | nil => simp [encEnts]
  | cons e l ih =>
    obtain ⟨ht, hd⟩ := h e (by simp)
    have h1 := (digs_len e.term.toNat (by omega)).2
    have h3 := (digs_len e.data.length (by omega)).2
    have h2 := ih fun x hx => h x (by simp [hx])
    simp only [encEnts, List.length_append, List.length_cons]; omega
theorem entsB_mem {T : Int} : ∀ {i t : Int} {l : List EntS}, entsB T i t l = true → ∀ e ∈ l, 0 ≤ e.index ∧ e.index ≤ 1099511627776 ∧ 1 ≤ e.term ∧ e.term ≤ T ∧ e.data.length ≤ 4096
  | _, _, [], _, e, he => by cases he
  | i, t, x :: l, h, e, he => by
    simp only [entsB, entB, inB, Bool.and_eq_true, decide_eq_true_eq] at h
    rcases List.mem_cons.1 he with rfl | he
    · exact ⟨h.1.1.1.1.2.1, h.1.1.1.1.2.2, by omega, h.1.1.2, h.1.2⟩
    · exact entsB_mem h.2 e he
theorem headB_iff {m : MsgS} : headB m = true ↔ (0 ≤ m.from_ ∧ m.from_ < 7) ∧ (0 ≤ m.to_ ∧ m.to_ < 7) ∧ m.from_ ≠ m.to_ ∧ (0 ≤ m.term ∧ m.term ≤ 1099511627776) ∧ (0 ≤ m.index ∧ m.index ≤ 1099511627776) ∧ (0 ≤ m.logTerm ∧ m.logTerm ≤ 1099511627776) ∧ (0 ≤ m.commit ∧ m.commit ≤ 1099511627776) ∧ (0 ≤ m.round ∧ m.round ≤ 1099511627776) ∧ 0 < m.term := by
  simp only [headB, nodeB, withinB, inB, List.all_cons, List.all_nil, Bool.and_eq_true, decide_eq_true_eq, Bool.and_true, and_assoc]
/-- What a check that says yes says. -/
structure ChkM (m : MsgS) : Prop where
  kind : 1 ≤ m.kind ∧ m.kind ≤ 6
  head : headB m = true
  ents : entsB m.term m.index m.logTerm m.entries = true
  len : m.entries.length ≤ 8
  dlen : m.data.length ≤ 512
  e0 : m.kind ≠ 3 → m.entries = []
  v0 : m.kind ≠ 5 → m.voters = []
  d0 : m.kind ≠ 5 → m.data = []
  v5 : m.kind = 5 → chk m.voters = true
theorem chkM_iff {m : MsgS} (h : chkM m = true) : ChkM m := by
  unfold chkM emptyB lenB at h
  simp only [Bool.and_eq_true, Bool.or_eq_true, decide_eq_true_eq] at h
  obtain ⟨⟨⟨⟨⟨⟨hk, h8⟩, h5⟩, he⟩, hv⟩, hd⟩, hs⟩ := h
  have hk' : (1 ≤ m.kind ∧ m.kind ≤ 6) ∧ headB m = true ∧ (m.kind = 5 → chk m.voters = true) := by
    unfold kindB at hk
    split at hk
    · exact ⟨by omega, hk, fun h => by omega⟩
    · split at hk
      · simp only [Bool.and_eq_true] at hk; exact ⟨by omega, hk.1.1, fun h => by omega⟩
      · split at hk
        · simp only [Bool.and_eq_true] at hk; exact ⟨by omega, hk.1.1.1.1, fun _ => hk.2⟩
        · cases hk
  exact ⟨hk'.1, hk'.2.1, hs, h8, h5, fun h => List.eq_nil_of_length_eq_zero (he.resolve_left h), fun h => List.eq_nil_of_length_eq_zero (hv.resolve_left h), fun h => List.eq_nil_of_length_eq_zero (hd.resolve_left h), hk'.2.2⟩
end Go.Proofs.Ytfflcnlgkbgbhaa
