/-
  Texts of this claim, put together: DrKit, DrLess, DrWith, DrDo, DrDo2.
-/
import Derived.Test.YtjjhmknlhfijjaaZ12
import Derived.Test.YtjjhmknlhfijjaaZ3
set_option linter.unusedVariables false
set_option linter.unusedSimpArgs false
namespace Go.Proofs.Ytjjhmknlhfijjaa
open Go.RowKit

abbrev Big : Nat := 9223372036854775807
def kFile : Kd (Nam × Nam) where
  sz := 2
  K := fun w S x cs => ∃ v, cs = [.string ⟨x.1.toArray⟩, v] ∧ Rs kByte w S v x.2 ∧ x.1.length ≤ 9223372036854775807
  len := by rintro w S x cs ⟨v, rfl, _⟩; rfl
  one := by
    rintro w S x cs ⟨v, rfl, ⟨A, c, rfl, _⟩, _⟩ u hu
    simp only [List.mem_cons, List.not_mem_nil, or_false] at hu
    rcases hu with rfl | rfl <;> rfl
  mono := by rintro w S S' x cs h ⟨v, rfl, h1, h2⟩; exact ⟨v, rfl, h1.mono h, h2⟩
  move := by rintro w w' S x cs h ⟨v, rfl, h1, h2⟩; exact ⟨v, rfl, h1.keep fun b hb _ => h b hb, h2⟩
  bound := by rintro w S x cs ⟨v, rfl, h1, h2⟩; exact ⟨v, rfl, h1.bound, h2⟩
/-- An act in the reference's form. -/
def rkind : ActK → Int
  | .wr _ _ => 0
  | .tr _ _ => 1
  | .mv _ _ => 2
  | .dp _ => 3
def rname : ActK → Nam
  | .wr n _ => n
  | .tr n _ => n
  | .mv o _ => o
  | .dp n => n
def rto : ActK → Nam
  | .mv _ t => t
  | _ => []
def rat : ActK → Nat
  | .wr _ a => a
  | .tr _ a => a
  | _ => 0
def ractC (k : ActK) (v : Value) : Array Value := #[.int .i64 (rkind k), .string ⟨(rname k).toArray⟩, .string ⟨(rto k).toArray⟩, .int .i64 (rat k : Int), v]
def kRAct : Kd ActS where
  sz := 5
  K := fun w S x cs => ∃ v, cs = (ractC x.k v).toList ∧ Rs kByte w S v x.data
  len := by rintro w S x cs ⟨v, rfl, _⟩; rfl
  one := by
    rintro w S x cs ⟨v, rfl, A, c, rfl, _⟩ u hu
    simp only [ractC, List.mem_cons, List.not_mem_nil, or_false] at hu
    rcases hu with rfl | rfl | rfl | rfl | rfl <;> rfl
  mono := by rintro w S S' x cs h ⟨v, rfl, h1⟩; exact ⟨v, rfl, h1.mono h⟩
  move := by rintro w w' S x cs h ⟨v, rfl, h1⟩; exact ⟨v, rfl, h1.keep fun b hb _ => h b hb⟩
  bound := by rintro w S x cs ⟨v, rfl, h1⟩; exact ⟨v, rfl, h1.bound⟩
theorem tFiles : ElemT Try.prog 88 101 (.agg #[.string ByteArray.empty, .slice none 0 0]) 2 40 := ⟨Try.underlying88, by kernel_rfl, rfl, by omega, by omega⟩
theorem tRActs : ElemT Try.prog 89 97 (.agg #[.int .i64 0, .string ByteArray.empty, .string ByteArray.empty, .int .i64 0, .slice none 0 0]) 5 72 := ⟨Try.underlying89, by kernel_rfl, rfl, by omega, by omega⟩
theorem Row.file {w : World} {S : Nat → Prop} {A : Option Addr} {xs : List (Nam × Nam)} (h : Row kFile w S A xs) {j : Nat} (hj : j < xs.length) : ∃ ad Ab cb, A = some ad ∧ w.cell? (ad.add (j * 2)) = some (.string ⟨xs[j].1.toArray⟩) ∧ w.cell? ⟨(ad.add (j * 2)).block, (ad.add (j * 2)).off + 1, none⟩ = some (.slice Ab xs[j].2.length cb) ∧
    Rs kByte w S (.slice Ab xs[j].2.length cb) xs[j].2 ∧ xs[j].1.length ≤ 9223372036854775807 := by
  obtain ⟨ad, cs, rfl, _, _, hK, hc⟩ := h.get hj
  obtain ⟨v, rfl, h1, h2⟩ := hK
  obtain ⟨Ab, cb, e, _⟩ := id h1
  subst e
  refine ⟨ad, Ab, cb, rfl, hc 0 _ rfl, ?_, h1, h2⟩
  have h := hc 1 _ rfl
  rw [← h, ← add_of_add]; rfl
theorem Row.ract {w : World} {S : Nat → Prop} {A : Option Addr} {xs : List ActS} (h : Row kRAct w S A xs) {j : Nat} (hj : j < xs.length) : ∃ ad Ab cb, A = some ad ∧ Rs kByte w S (.slice Ab xs[j].data.length cb) xs[j].data ∧
    w.cell? (ad.add (j * 5)) = some (.int .i64 (rkind xs[j].k)) ∧ w.cell? ⟨(ad.add (j * 5)).block, (ad.add (j * 5)).off + 1, none⟩ = some (.string ⟨(rname xs[j].k).toArray⟩) ∧ w.cell? ⟨(ad.add (j * 5)).block, (ad.add (j * 5)).off + 2, none⟩ = some (.string ⟨(rto xs[j].k).toArray⟩) ∧ w.cell? ⟨(ad.add (j * 5)).block, (ad.add (j * 5)).off + 3, none⟩ = some (.int .i64 (rat xs[j].k : Int)) ∧
    w.cell? ⟨(ad.add (j * 5)).block, (ad.add (j * 5)).off + 4, none⟩ = some (.slice Ab xs[j].data.length cb) := by
  obtain ⟨ad, cs, rfl, _, _, hK, hc⟩ := h.get hj
  obtain ⟨v, rfl, h1⟩ := hK
  obtain ⟨Ab, cb, e, _⟩ := id h1
  subst e
  have hg : ∀ i u, (ractC xs[j].k (.slice Ab xs[j].data.length cb)).toList[i]? = some u → 0 < i → w.cell? ⟨(ad.add (j * 5)).block, (ad.add (j * 5)).off + i, none⟩ = some u := fun i u hu hi => by
    have h := hc i u hu
    rw [← add_of_add] at h
    rw [show (ad.add (j * kRAct.sz)).add i = ⟨(ad.add (j * 5)).block, (ad.add (j * 5)).off + i, none⟩ from by
      show (ad.add (j * 5)).add i = _
      unfold Addr.add
      rw [if_neg (show ¬ i = 0 by omega)]] at h
    exact h
  exact ⟨ad, Ab, cb, rfl, h1, hc 0 _ rfl, hg 1 _ rfl (by decide), hg 2 _ rfl (by decide), hg 3 _ rfl (by decide), hg 4 _ rfl (by decide)⟩
theorem Rs.one_file {w : World} {S : Nat → Prop} {g : Nat} {t : TypeId} {v : Value} {x : Nam × Nam} (hb : w.heap[g]? = some (.cells #[.string ⟨x.1.toArray⟩, v] t (0, 0))) (hS : S g) (hv : Rs kByte w S v x.2) (hn : x.1.length ≤ 9223372036854775807) : Rs kFile w S (.slice (some ⟨g, 0, none⟩) 1 1) [x] :=
  ⟨_, 1, rfl, by simp, by omega, by simp, Row.of_block hb hS fun j y hj => by
    match j, hj with
    | 0, hj =>
      simp at hj; subst hj
      exact ⟨_, ⟨v, rfl, hv, hn⟩, fun i u hi => by simpa using hi⟩⟩
theorem Rs.one_ract {w : World} {S : Nat → Prop} {g : Nat} {t : TypeId} {v : Value} {x : ActS} (hb : w.heap[g]? = some (.cells (ractC x.k v) t (0, 0))) (hS : S g) (hv : Rs kByte w S v x.data) : Rs kRAct w S (.slice (some ⟨g, 0, none⟩) 1 1) [x] :=
  ⟨_, 1, rfl, by simp, by omega, by simp, Row.of_block hb hS fun j y hj => by
    match j, hj with
    | 0, hj =>
      simp at hj; subst hj
      exact ⟨_, ⟨v, rfl, hv⟩, fun i u hi => by simp only [Nat.zero_mul, Nat.zero_add]; simpa using hi⟩⟩

/-! ### get -/
theorem getK_take {β : Type} (L : KL β) (n : Nam) : ∀ k, k ≤ L.length → getK (L.take k) n = none → getK L n = getK (L.drop k) n := by
  intro k hk h
  have : getK (L.take k ++ L.drop k) n = getK (L.drop k) n := by
    unfold getK at h ⊢
    rw [List.find?_append]
    rcases hf : (L.take k).find? (fun p => decide (p.1 = n)) with _ | p
    · rw [hf]; rfl
    · rw [hf] at h; cases h
  rwa [List.take_append_drop] at this
/-- A file's bytes and whether it is there. -/
def GetP (w : World) (S : Nat → Prop) (L : KL Nam) (n : Nam) (e : Ending) (w' : World) : Prop :=
  ∃ A c, e = .returned (.tuple #[.slice A (bytesK L n).length c, .bool (getK L n).isSome]) ∧ Rs kByte w' S (.slice A (bytesK L n).length c) (bytesK L n) ∧ Ext w w'
set_option maxRecDepth 100000 in
set_option maxHeartbeats 1600000 in
theorem get_calls (w : World) (S : Nat → Prop) (v : Value) (L : KL Nam) (n : Nam) (h : Rs kFile w S v L) :
    Calls Try.prog 62 #[v, .string ⟨n.toArray⟩] w (GetP w S L n) := by
  obtain ⟨A, c, rfl, hl, hc, hz, hrow⟩ := h
  have HR := Lib.hid hrow
  clear hrow
  go_enter Try.func62, Try.ntmps62
  go_wp2_with fail
  go_loopw [10] (fun i wr => ∃ k : Nat, k ≤ L.length ∧ i = .int .i64 k ∧ Hid (getK (L.take k) n = none) ∧ Hid (Ext w wr)) (fun i _ => L.length - (intOf i).toNat)
  case atStart => exact ⟨0, Nat.zero_le _, rfl, Lib.hid rfl, Lib.hid (Ext.refl _)⟩
  case round =>
    obtain ⟨k, hk, rfl, HN, HX⟩ := hrel
    by_cases hlt : k < L.length
    · obtain ⟨ad, Ab, cb, rfl, x0, x1, hb, hn⟩ := (HR.out.keep (w' := wr) fun b _ hl => HX.out.block b hl).file hlt
      have HB := Lib.hid hb
      have HGT := Lib.hid (getK_take L n k hk HN.out)
      have HTK := Lib.hid (List.take_succ_eq_append_getElem hlt)
      have HDR := Lib.hid (List.drop_eq_getElem_cons hlt)
      obtain ⟨x, hx⟩ : ∃ x, x = L[k] := ⟨_, rfl⟩
      rw [← hx] at x0 x1 HB HTK HDR
      clear hb hn hx
      by_cases he : x.1 = n
      · have heb : (x.1 == n) = true := beq_iff_eq.2 he
        have hg : getK L n = some x.2 := by
          rw [HGT.out, HDR.out]
          unfold getK
          rw [List.find?_cons]
          simp [he]
        have HG := Lib.hid (show getK L n = some x.2 ∧ bytesK L n = x.2 from ⟨hg, bytes_some hg⟩)
        clear hg
        go_wp2_with fail
        go_ret2
        refine ⟨Ab, cb, ?_, ?_, ?_⟩
        · rw [HG.out.1, HG.out.2]; rfl
        · rw [HG.out.2]; exact HB.out.alloc _
        · exact HX.out.alloc _
      · have heb : (x.1 == n) = false := beq_eq_false_iff_ne.2 he
        have HN2 := Lib.hid (show getK (L.take (k + 1)) n = none by
          rw [HTK.out]
          have h1 := HN.out
          unfold getK at h1 ⊢
          rw [List.find?_append]
          rcases hf : (L.take k).find? (fun p => decide (p.1 = n)) with _ | p
          · rw [hf]; simp [he]
          · rw [hf] at h1; cases h1)
        go_wp2_with fail
        go_roundw
        case rel => exact ⟨k + 1, by omega, by go_num, HN2, Lib.hid (HX.out.alloc _)⟩
        case measure => simp [intOf]; omega
    · obtain rfl : k = L.length := by omega
      have HG := Lib.hid (show getK L n = none ∧ bytesK L n = [] by
        have h1 := HN.out
        rw [List.take_length] at h1
        exact ⟨h1, by unfold bytesK; rw [h1]; rfl⟩)
      clear hlt
      go_wp2_with fail
      go_ret2
      refine ⟨none, 0, ?_, ?_, HX.out⟩
      · rw [HG.out.1, HG.out.2]; rfl
      · rw [HG.out.2]; exact Rs.nil _ _ _
end Go.Proofs.Ytjjhmknlhfijjaa
set_option linter.unusedVariables false
set_option linter.unusedSimpArgs false
namespace Go.Proofs.Ytjjhmknlhfijjaa
open Go.RowKit

theorem delK_snoc {β : Type} (L : KL β) (x : Nam × β) (n : Nam) : delK (L ++ [x]) n = if x.1 = n then delK L n else delK L n ++ [x] := by
  unfold delK
  rw [List.filter_append]
  by_cases h : x.1 = n
  · rw [if_pos h]; simp [h]
  · rw [if_neg h]; simp [h]
/-- Files of the call's own; their bytes may be elder ones. -/
def FilesP (w : World) (S : Nat → Prop) (L : KL Nam) (e : Ending) (w' : World) : Prop :=
  ∃ u, e = .returned u ∧ Ow kFile 101 w' w.heap.size (fun b => S b ∨ w.heap.size ≤ b) u L ∧ Ext w w'
set_option maxRecDepth 100000 in
set_option maxHeartbeats 1600000 in
theorem less_calls (w : World) (S : Nat → Prop) (v : Value) (L : KL Nam) (n : Nam) (h : Rs kFile w S v L) (hS : ∀ b, S b → b < w.heap.size) (hL : L.length ≤ 100000) :
    Calls Try.prog 81 #[v, .string ⟨n.toArray⟩] w (FilesP w S (delK L n)) := by
  obtain ⟨A, c, rfl, hl, hc, hz, hrow⟩ := h
  have HR := Lib.hid hrow
  have HS := Lib.hid hS
  clear hrow hS
  go_enter Try.func81, Try.ntmps81
  go_wp2_with fail
  go_loopw [5, 10] (fun u i wr => ∃ k : Nat, k ≤ L.length ∧ i = .int .i64 k ∧ Hid (Ow kFile 101 wr w.heap.size (fun b => S b ∨ w.heap.size ≤ b) u (delK (L.take k) n)) ∧ Hid (Ext w wr)) (fun _ i _ => L.length - (intOf i).toNat)
  case atStart => exact ⟨0, Nat.zero_le _, rfl, Lib.hid (Ow.nil _ _ _ _ _), Lib.hid (Ext.refl _)⟩
  case round =>
    obtain ⟨k, hk, rfl, HO, HX⟩ := hrel
    by_cases hlt : k < L.length
    · obtain ⟨ad, Ab, cb, rfl, x0, x1, hb, hn⟩ := (HR.out.keep (w' := wr) fun b _ hl => HX.out.block b hl).file hlt
      have HB := Lib.hid hb
      have HN := Lib.hid hn
      have HTK := Lib.hid (List.take_succ_eq_append_getElem hlt)
      have HDL := Lib.hid (show (delK (L.take k) n).length ≤ 100000 by have h1 := delK_le (L.take k) n; rw [List.length_take] at h1; omega)
      obtain ⟨x, hx⟩ : ∃ x, x = L[k] := ⟨_, rfl⟩
      rw [← hx] at x0 x1 HB HTK HN
      clear hb hn hx
      by_cases he : x.1 = n
      · have HD := Lib.hid (show delK (L.take (k + 1)) n = delK (L.take k) n by rw [HTK.out, delK_snoc, if_pos he])
        go_wp2_with fail
        go_roundw
        case rel => exact ⟨k + 1, by omega, by go_num, Lib.hid (by rw [HD.out]; exact HO.out.alloc _), Lib.hid (HX.out.alloc _)⟩
        case measure => simp [intOf]; omega
      · have HD := Lib.hid (show delK (L.take (k + 1)) n = delK (L.take k) n ++ [x] by rw [HTK.out, delK_snoc, if_neg he])
        have heb : (x.1 == n) = false := beq_eq_false_iff_ne.2 he
        obtain ⟨w3, hw3⟩ : ∃ w3, w3 = (wr.alloc (.cells #[.string ⟨x.1.toArray⟩, .slice Ab x.2.length cb] 101)).alloc (.cells #[.string ⟨x.1.toArray⟩, .slice Ab x.2.length cb] 101) := ⟨_, rfl⟩
        have hx3 : Ext wr w3 := by rw [hw3]; exact ((Ext.refl _).alloc _).alloc _
        have hb3 : w3.heap[wr.heap.size + 1]? = some (.cells #[.string ⟨x.1.toArray⟩, .slice Ab x.2.length cb] 101 (0, 0)) := by rw [hw3]; exact heap_new _ _ (by simp) _
        have HLIT := Lib.hid (show Rs kFile w3 (fun b => S b ∨ b = wr.heap.size + 1) (.slice (some ⟨wr.heap.size + 1, 0, none⟩) 1 1) [x] from Rs.one_file hb3 (.inr rfl) ((HB.out.ext hx3).mono fun _ h => .inl h) HN.out)
        have HO3 := Lib.hid (HO.out.ext hx3)
        have HX3 := Lib.hid (HX.out.trans hx3)
        have HLE := Lib.hid hx3.le
        have HW3 := Lib.hid hw3
        have HST := Lib.hid (show ∀ y cs, kFile.K w3 (fun b => S b ∨ b = wr.heap.size + 1) y cs → kFile.K w3 (fun b => (S b ∨ w.heap.size ≤ b) ∧ some b ≠ u5.ownBlock) y cs from fun y cs hy => kFile.mono (fun b hb => by
          rcases hb with hb | hb
          · refine ⟨.inl hb, fun e => ?_⟩
            have h1 := HO.out.from_ b e.symm
            have h2 := HS.out b hb
            omega
          · refine ⟨.inr ?_, fun e => ?_⟩
            · have := HX.out.le; omega
            · have h1 := HO.out.lt b e.symm; omega) hy)
        clear hx3 hb3 hw3
        go_wp2_with (at_builtin; rw [← HW3.out]; refine wpList_append_Rs kFile rfl (.tmp 18) (.tmp 20) 88 101 rfl tFiles w.heap.size _ _ (delK (L.take k) n) [x] _ _ rfl rfl HO3.out HLIT.out HST.out (fun b hb => .inr (Nat.le_trans HX3.out.le hb)) (by have := HDL.out; simp; omega) HX3.out.le ?_)
        intro v' w4 ho hg _
        have HO4 := Lib.hid ho
        have HX4 := Lib.hid (HX3.out.grown hg HO3.out.from_)
        rw [← HD.out] at HO4
        clear ho hg
        go_wp2_with fail
        go_roundw
        case rel => exact ⟨k + 1, by omega, by go_num, HO4, HX4⟩
        case measure => simp [intOf]; omega
    · obtain rfl : k = L.length := by omega
      rw [List.take_length] at HO
      clear hlt
      go_wp2_with fail
      go_ret
      exact ⟨_, rfl, HO.out, HX.out⟩
end Go.Proofs.Ytjjhmknlhfijjaa
set_option linter.unusedVariables false
set_option linter.unusedSimpArgs false
namespace Go.Proofs.Ytjjhmknlhfijjaa
open Go.RowKit

theorem bless_eq : ∀ a b : Nam, Op.bytesLess a b = nlt a b
  | [], [] => rfl
  | [], _ :: _ => rfl
  | _ :: _, [] => rfl
  | x :: a, y :: b => by
    have ih := bless_eq a b
    unfold nlt at ih ⊢
    simp only [Op.bytesLess, bytesBefore, ih]
theorem insK_at {β : Type} (n : Nam) (b : β) : ∀ (M : KL β) (i : Nat), i ≤ M.length → (∀ (j : Nat) (h : j < M.length), j < i → nlt n M[j].1 = false) → (∀ h : i < M.length, nlt n M[i].1 = true) → insK n b M = M.take i ++ (n, b) :: M.drop i
  | [], i, hi, _, _ => by
    have : i = 0 := by simpa using hi
    subst this
    rfl
  | y :: l, 0, _, _, h => by
    have h1 : nlt n y.1 = true := h (by simp)
    unfold insK
    rw [if_pos h1]
    rfl
  | y :: l, i + 1, hi, hb, h => by
    have h1 : nlt n y.1 = false := hb 0 (by simp) (by omega)
    have ih := insK_at n b l i (by simpa using hi) (fun j hj hji => hb (j + 1) (by simpa using hj) (by omega)) (fun hh => h (by simpa using hh))
    unfold insK
    rw [h1, if_neg (by decide), ih]
    rfl
/-- What stands in the new files after k of the old ones; i: where the new one went. -/
def wth (M : KL Nam) (n b : Nam) (i k : Nat) : Bool → KL Nam
  | true => M.take i ++ (n, b) :: (M.drop i).take (k - i)
  | false => M.take k
/-- Where the new one goes. -/
def WInv (M : KL Nam) (n : Nam) (i0 k : Nat) (done : Bool) : Prop :=
  i0 ≤ k ∧ (∀ (j : Nat) (h : j < M.length), j < i0 → nlt n M[j].1 = false) ∧ (done = true → i0 < M.length ∧ ∀ h : i0 < M.length, nlt n M[i0].1 = true) ∧ (done = false → i0 = k)
theorem lit_hst {w W : World} {S : Nat → Prop} {u : Value} {xs : KL Nam} {g : Nat} (hS : ∀ b, S b → b < w.heap.size) (ho : Ow kFile 101 W w.heap.size (fun b => S b ∨ w.heap.size ≤ b) u xs) (hg : w.heap.size ≤ g) (hn : u.ownBlock ≠ some g) :
    ∀ y cs, kFile.K W (fun b => S b ∨ b = g) y cs → kFile.K W (fun b => (S b ∨ w.heap.size ≤ b) ∧ some b ≠ u.ownBlock) y cs := fun y cs hy => kFile.mono (fun b hb => by
  rcases hb with hb | hb
  · refine ⟨.inl hb, fun e => ?_⟩
    have h1 := ho.from_ b e.symm
    have h2 := hS b hb
    omega
  · exact ⟨.inr (by omega), fun e => hn (by rw [← e, hb])⟩) hy
theorem wth_step (M : KL Nam) (n b : Nam) (i k : Nat) (hk : k < M.length) (hi : i ≤ k) : wth M n b i (k + 1) true = wth M n b i k true ++ [M[k]] := by
  unfold wth
  rw [List.append_assoc]
  congr 1
  rw [List.cons_append]
  congr 1
  have h1 : k - i < (M.drop i).length := by rw [List.length_drop]; omega
  have e : (M.drop i)[k - i] = M[k] := by
    rw [List.getElem_drop]
    congr 1
    omega
  rw [show k + 1 - i = (k - i) + 1 by omega, List.take_succ_eq_append_getElem h1, e]
set_option maxRecDepth 100000 in
set_option maxHeartbeats 3200000 in
theorem with_calls (w : World) (S : Nat → Prop) (v bv : Value) (L : KL Nam) (n b : Nam) (h : Rs kFile w S v L) (hb : Rs kByte w S bv b) (hS : ∀ b, S b → b < w.heap.size) (hL : L.length ≤ 100000) (hn : n.length ≤ 9223372036854775807) :
    Calls Try.prog 80 #[v, .string ⟨n.toArray⟩, bv] w (FilesP w S (putK L n b)) := by
  have HLC := Lib.hid (less_calls w S v L n h hS hL)
  have HBV := Lib.hid hb
  have HS0 := Lib.hid hS
  have HN0 := Lib.hid hn
  obtain ⟨Ab, cb, rfl, -, -, -, -⟩ := hb
  obtain ⟨M, hM⟩ : ∃ M, M = delK L n := ⟨_, rfl⟩
  have HPUT := Lib.hid (show putK L n b = insK n b M by rw [hM]; rfl)
  have HML := Lib.hid (show M.length ≤ 100000 by rw [hM]; have := delK_le L n; omega)
  rw [← hM] at HLC
  clear h hS hn hL hM
  go_enter Try.func80, Try.ntmps80
  go_wp2_with fail
  refine HLC.out.mono ?_
  rintro e w1 ⟨u1, rfl, ho1, hx1⟩
  have HX1 := Lib.hid hx1
  have hr1 := ho1.rs.bound
  obtain ⟨S1, hS1⟩ : ∃ S1, S1 = fun b => (S b ∨ w.heap.size ≤ b) ∧ b < w1.heap.size := ⟨_, rfl⟩
  have HSU := Lib.hid (show ∀ b, S1 b → S b ∨ w.heap.size ≤ b from fun b hb => by rw [hS1] at hb; exact hb.1)
  have HSL := Lib.hid (show ∀ b, S1 b → b < w1.heap.size from fun b hb => by rw [hS1] at hb; exact hb.2)
  have HB1 := Lib.hid (show Rs kByte w1 S1 (.slice Ab b.length cb) b by rw [hS1]; exact (HBV.out.ext hx1).bound.mono fun k hk => ⟨.inl hk.1, hk.2⟩)
  rw [← hS1] at hr1
  obtain ⟨A1, c1, rfl, -, -, -, hrow1⟩ := hr1
  have HR := Lib.hid hrow1
  clear ho1 hx1 hrow1 hS1
  go_wp2_with fail
  go_loopw [7, 8, 15] (fun u dn i wr => ∃ (k i0 : Nat) (done : Bool), k ≤ M.length ∧ i = .int .i64 k ∧ dn = .bool done ∧ Hid (Ow kFile 101 wr w1.heap.size (fun b => S1 b ∨ w1.heap.size ≤ b) u (wth M n b i0 k done)) ∧ Hid (WInv M n i0 k done) ∧ Hid (Ext w1 wr)) (fun _ _ i _ => M.length - (intOf i).toNat)
  case atStart => exact ⟨0, 0, false, Nat.zero_le _, rfl, rfl, Lib.hid (Ow.nil _ _ _ _ _), Lib.hid ⟨Nat.le_refl _, fun _ _ h => (by omega), fun h => (by cases h), fun _ => rfl⟩, Lib.hid (Ext.refl _)⟩
  case round =>
    obtain ⟨k, i0, done, hk, rfl, rfl, HO, HI, HX⟩ := hrel
    have hMb : M.length ≤ 100000 := HML.out
    by_cases hlt : k < M.length
    · obtain ⟨ad, Ax, cx, rfl, x0, x1, hxb, hn⟩ := (HR.out.keep (w' := wr) fun b _ hl => HX.out.block b hl).file hlt
      have HXB := Lib.hid hxb
      have HN := Lib.hid hn
      obtain ⟨x, hx⟩ : ∃ x, x = M[k] := ⟨_, rfl⟩
      have HXE := Lib.hid hx
      rw [← hx] at x0 x1 HXB HN
      clear hxb hn hx
      have HLEN := Lib.hid (show (wth M n b i0 k done).length ≤ 200000 by
        have h1 := HML.out
        cases done
        · show (M.take k).length ≤ _
          rw [List.length_take]; omega
        · show (M.take i0 ++ (n, b) :: (M.drop i0).take (k - i0)).length ≤ _
          simp only [List.length_append, List.length_cons, List.length_take, List.length_drop]
          omega)
      -- the range's variable
      have hwx : Ext wr (wr.alloc (.cells #[.string ⟨x.1.toArray⟩, .slice Ax x.2.length cx] 101)) := (Ext.refl _).alloc _
      by_cases hdo : done = true ∨ nlt n x.1 = false
      · -- one append
        obtain ⟨i1, HI1, HW1⟩ : ∃ i1, Hid (WInv M n i1 (k + 1) done) ∧ Hid (wth M n b i1 (k + 1) done = wth M n b i0 k done ++ [x]) := by
          cases done with
          | true =>
            refine ⟨i0, Lib.hid ⟨by have := HI.out.1; omega, HI.out.2.1, HI.out.2.2.1, fun h => (by cases h)⟩, Lib.hid ?_⟩
            rw [wth_step M n b i0 k hlt HI.out.1, HXE.out]
          | false =>
            have h0 : i0 = k := HI.out.2.2.2 rfl
            have hx1 : nlt n x.1 = false := hdo.resolve_left (by decide)
            refine ⟨k + 1, Lib.hid ⟨Nat.le_refl _, fun j hj hjk => ?_, fun h => (by cases h), fun _ => rfl⟩, Lib.hid ?_⟩
            · rcases Nat.lt_or_ge j k with h1 | h1
              · exact HI.out.2.1 j hj (by omega)
              · have h2 : j = k := by omega
                subst h2
                rw [← HXE.out]; exact hx1
            · show M.take (k + 1) = M.take k ++ [x]
              rw [List.take_succ_eq_append_getElem hlt, HXE.out]
        have hbl : done = false → Op.bytesLess n x.1 = false := fun h => by rw [bless_eq]; exact hdo.resolve_left (by rw [h]; decide)
        obtain ⟨w3, hw3⟩ : ∃ w3, w3 = (wr.alloc (.cells #[.string ⟨x.1.toArray⟩, .slice Ax x.2.length cx] 101)).alloc (.cells #[.string ⟨x.1.toArray⟩, .slice Ax x.2.length cx] 101) := ⟨_, rfl⟩
        have hx3 : Ext wr w3 := by rw [hw3]; exact ((Ext.refl _).alloc _).alloc _
        have hb3 : w3.heap[wr.heap.size + 1]? = some (.cells #[.string ⟨x.1.toArray⟩, .slice Ax x.2.length cx] 101 (0, 0)) := by rw [hw3]; exact heap_new _ _ (by simp) _
        have HLIT := Lib.hid (show Rs kFile w3 (fun b => S1 b ∨ b = wr.heap.size + 1) (.slice (some ⟨wr.heap.size + 1, 0, none⟩) 1 1) [x] from Rs.one_file hb3 (.inr rfl) ((HXB.out.ext hx3).mono fun _ h => .inl h) HN.out)
        have HO3 := Lib.hid (HO.out.ext hx3)
        have HX3 := Lib.hid (HX.out.trans hx3)
        have HW3 := Lib.hid hw3
        have HST := Lib.hid (lit_hst HSL.out HO3.out (g := wr.heap.size + 1) (by have := HX.out.le; omega) (fun e => by have := HO.out.lt _ e; omega))
        clear hx3 hb3 hw3

        cases done with
        | true =>
          go_wp2_with (at_builtin; rw [← HW3.out]; refine wpList_append_Rs kFile rfl (.tmp 33) (.tmp 35) 88 101 rfl tFiles w1.heap.size _ _ (wth M n b i0 k true) [x] _ _ rfl rfl HO3.out HLIT.out HST.out (fun b hb => .inr (Nat.le_trans HX3.out.le hb)) (by have := HLEN.out; simp; omega) HX3.out.le ?_)
          intro v' w4 ho hg _
          have HO4 := Lib.hid ho
          have HX4 := Lib.hid (HX3.out.grown hg HO3.out.from_)
          rw [← HW1.out] at HO4
          clear ho hg
          go_wp2_with fail
          go_roundw
          case rel => exact ⟨k + 1, i1, true, by omega, by go_num, rfl, HO4, HI1, HX4⟩
          case measure => simp [intOf]; omega

        | false =>
          have hbl0 := hbl rfl
          clear hbl
          go_wp2_with (at_builtin; rw [← HW3.out]; refine wpList_append_Rs kFile rfl (.tmp 33) (.tmp 35) 88 101 rfl tFiles w1.heap.size _ _ (wth M n b i0 k false) [x] _ _ rfl rfl HO3.out HLIT.out HST.out (fun b hb => .inr (Nat.le_trans HX3.out.le hb)) (by have := HLEN.out; simp; omega) HX3.out.le ?_)
          intro v' w4 ho hg _
          have HO4 := Lib.hid ho
          have HX4 := Lib.hid (HX3.out.grown hg HO3.out.from_)
          rw [← HW1.out] at HO4
          clear ho hg
          go_wp2_with fail
          go_roundw
          case rel => exact ⟨k + 1, i1, false, by omega, by go_num, rfl, HO4, HI1, HX4⟩
          case measure => simp [intOf]; omega
      · have hd0 : done = false := by cases done; rfl; exact absurd (.inl rfl) hdo
        have hx1 : nlt n x.1 = true := by
          cases hx2 : nlt n x.1
          · exact absurd (.inr hx2) hdo
          · rfl
        subst hd0
        have hi0 : i0 = k := HI.out.2.2.2 rfl
        subst hi0
        have hbl : Op.bytesLess n x.1 = true := by rw [bless_eq]; exact hx1
        have HLT := Lib.hid hlt
        have HX1B := Lib.hid hx1
        have HW1 := Lib.hid (show wth M n b i0 (i0 + 1) true = wth M n b i0 i0 false ++ [(n, b), x] by
          rw [show [(n, b), x] = [(n, b)] ++ [x] from rfl, ← List.append_assoc]
          rw [wth_step M n b i0 i0 hlt (Nat.le_refl _), HXE.out]
          congr 1
          unfold wth
          rw [Nat.sub_self]
          rfl)
        obtain ⟨w3, hw3⟩ : ∃ w3, w3 = (wr.alloc (.cells #[.string ⟨x.1.toArray⟩, .slice Ax x.2.length cx] 101)).alloc (.cells #[.string ⟨n.toArray⟩, .slice Ab b.length cb] 101) := ⟨_, rfl⟩
        have hx3 : Ext wr w3 := by rw [hw3]; exact ((Ext.refl _).alloc _).alloc _
        have hb3 : w3.heap[wr.heap.size + 1]? = some (.cells #[.string ⟨n.toArray⟩, .slice Ab b.length cb] 101 (0, 0)) := by rw [hw3]; exact heap_new _ _ (by simp) _
        have hbx : w3.heap[wr.heap.size]? = some (.cells #[.string ⟨x.1.toArray⟩, .slice Ax x.2.length cx] 101 (0, 0)) := by rw [hw3]; exact blk_ext (heap_alloc_new _ _) ((Ext.refl _).alloc _)
        have HBX := Lib.hid hbx
        have HLIT := Lib.hid (show Rs kFile w3 (fun b => S1 b ∨ b = wr.heap.size + 1) (.slice (some ⟨wr.heap.size + 1, 0, none⟩) 1 1) [(n, b)] from Rs.one_file (x := (n, b)) hb3 (.inr rfl) (((HB1.out.ext HX.out).ext hx3).mono fun _ h => .inl h) HN0.out)
        have HO3 := Lib.hid (HO.out.ext hx3)
        have HX3 := Lib.hid (HX.out.trans hx3)
        have HX3r := Lib.hid hx3
        have HW3 := Lib.hid hw3
        have HST := Lib.hid (lit_hst HSL.out HO3.out (g := wr.heap.size + 1) (by have := HX.out.le; omega) (fun e => by have := HO.out.lt _ e; omega))
        obtain ⟨g, hg⟩ : ∃ g, g = wr.heap.size := ⟨_, rfl⟩
        have HOG := Lib.hid (show ∀ k, u7.ownBlock = some k → k < wr.heap.size from HO.out.lt)
        clear hx3 hb3 hw3 hbx hg
        go_wp2_with (at_builtin; rw [← HW3.out]; refine wpList_append_Rs kFile rfl (.tmp 27) (.tmp 31) 88 101 rfl tFiles w1.heap.size _ _ (wth M n b i0 i0 false) [(n, b)] _ _ rfl rfl HO3.out HLIT.out HST.out (fun b hb => .inr (Nat.le_trans HX3.out.le hb)) (by have := HLEN.out; simp; omega) HX3.out.le ?_)
        intro v4 w4 ho4 hg4 hk4
        have HO4 := Lib.hid ho4
        have HX4 := Lib.hid (HX3.out.grown hg4 HO3.out.from_)
        have hbx4 : w4.heap[wr.heap.size]? = some (.cells #[.string ⟨x.1.toArray⟩, .slice Ax x.2.length cx] 101 (0, 0)) := (hg4.block _ (blk_lt HBX.out) (fun e => by have := HOG.out _ e.symm; omega)).trans HBX.out
        have y0 : w4.cell? ⟨wr.heap.size, 0, none⟩ = some (.string ⟨x.1.toArray⟩) := cell_blk hbx4 0
        have y1 : w4.cell? ⟨wr.heap.size, 1, none⟩ = some (.slice Ax x.2.length cx) := cell_blk hbx4 1
        have hgl4 := blk_lt hbx4
        clear ho4 hg4 hk4 hbx4
        obtain ⟨w5, hw5⟩ : ∃ w5, w5 = w4.alloc (.cells #[.string ⟨x.1.toArray⟩, .slice Ax x.2.length cx] 101) := ⟨_, rfl⟩
        have hx5 : Ext w4 w5 := by rw [hw5]; exact (Ext.refl _).alloc _
        have hb5 : w5.heap[w4.heap.size]? = some (.cells #[.string ⟨x.1.toArray⟩, .slice Ax x.2.length cx] 101 (0, 0)) := by rw [hw5]; exact heap_alloc_new _ _
        have HXB4 := Lib.hid (show Rs kByte w4 S1 (.slice Ax x.2.length cx) x.2 from HXB.out.keep fun b hb hl => by
          have h1 := HSL.out b hb
          have h2 := HX4.out.block b h1
          have h3 := HX.out.block b h1
          rw [h2, h3])
        have HLIT5 := Lib.hid (show Rs kFile w5 (fun b => S1 b ∨ b = w4.heap.size) (.slice (some ⟨w4.heap.size, 0, none⟩) 1 1) [x] from Rs.one_file hb5 (.inr rfl) ((HXB4.out.ext hx5).mono fun _ h => .inl h) HN.out)
        have HO5 := Lib.hid (HO4.out.ext hx5)
        have HX5 := Lib.hid (HX4.out.trans hx5)
        have HW5 := Lib.hid hw5
        have HST5 := Lib.hid (lit_hst HSL.out HO5.out (g := w4.heap.size) HX4.out.le (fun e => by have := HO4.out.lt _ e; omega))
        clear hx5 hb5 hw5
        go_wp2_with (at_builtin; rw [← HW5.out]; refine wpList_append_Rs kFile rfl (.tmp 33) (.tmp 35) 88 101 rfl tFiles w1.heap.size _ _ (wth M n b i0 i0 false ++ [(n, b)]) [x] _ _ rfl rfl HO5.out HLIT5.out HST5.out (fun b hb => .inr (Nat.le_trans HX5.out.le hb)) (by have := HLEN.out; simp; omega) HX5.out.le ?_)
        intro v6 w6 ho6 hg6 _
        have HO6 := Lib.hid ho6
        have HX6 := Lib.hid (HX5.out.grown hg6 HO5.out.from_)
        rw [← HW1.out] at HO6
        clear ho6 hg6
        go_wp2_with fail
        go_roundw
        case rel => exact ⟨i0 + 1, i0, true, by omega, by go_num, rfl, HO6, Lib.hid ⟨by omega, HI.out.2.1, fun _ => ⟨HLT.out, fun h => by rw [← HXE.out]; exact HX1B.out⟩, fun h => (by cases h)⟩, HX6⟩
        case measure => simp [intOf]; omega
    · obtain rfl : k = M.length := by omega
      clear hlt
      cases done with
      | true =>
        have HFIN := Lib.hid (show insK n b M = wth M n b i0 M.length true by
          rw [insK_at n b M i0 (by have := (HI.out.2.2.1 rfl).1; omega) HI.out.2.1 (HI.out.2.2.1 rfl).2]
          unfold wth
          rw [List.take_of_length_le (l := M.drop i0) (by rw [List.length_drop]; exact Nat.le_refl _)])
        go_wp2_with fail
        go_ret
        rw [HPUT.out, HFIN.out]
        exact ⟨_, rfl, (HO.out.lower HX1.out.le).mono fun k hk => hk.elim (HSU.out k) fun h => .inr (Nat.le_trans HX1.out.le h), HX1.out.trans HX.out⟩
      | false =>
        have HFIN := Lib.hid (show insK n b M = wth M n b i0 M.length false ++ [(n, b)] by
          rw [insK_at n b M M.length (Nat.le_refl _) (fun j hj hjk => HI.out.2.1 j hj (by have := HI.out.2.2.2 rfl; omega)) (fun h => by omega)]
          unfold wth
          rw [List.drop_of_length_le (Nat.le_refl _)])
        have HLEN := Lib.hid (show (wth M n b i0 M.length false).length ≤ 200000 by
          have h1 := HML.out
          show (M.take M.length).length ≤ _
          rw [List.length_take]; omega)
        obtain ⟨w3, hw3⟩ : ∃ w3, w3 = wr.alloc (.cells #[.string ⟨n.toArray⟩, .slice Ab b.length cb] 101) := ⟨_, rfl⟩
        have hx3 : Ext wr w3 := by rw [hw3]; exact (Ext.refl _).alloc _
        have hb3 : w3.heap[wr.heap.size]? = some (.cells #[.string ⟨n.toArray⟩, .slice Ab b.length cb] 101 (0, 0)) := by rw [hw3]; exact heap_alloc_new _ _
        have HLIT := Lib.hid (show Rs kFile w3 (fun b => S1 b ∨ b = wr.heap.size) (.slice (some ⟨wr.heap.size, 0, none⟩) 1 1) [(n, b)] from Rs.one_file (x := (n, b)) hb3 (.inr rfl) (((HB1.out.ext HX.out).ext hx3).mono fun _ h => .inl h) HN0.out)
        have HO3 := Lib.hid (HO.out.ext hx3)
        have HX3 := Lib.hid (HX.out.trans hx3)
        have HW3 := Lib.hid hw3
        have HST := Lib.hid (lit_hst HSL.out HO3.out (g := wr.heap.size) HX.out.le (fun e => by have := HO.out.lt _ e; omega))
        clear hx3 hb3 hw3
        go_wp2_with (at_builtin; rw [← HW3.out]; refine wpList_append_Rs kFile rfl (.tmp 40) (.tmp 44) 88 101 rfl tFiles w1.heap.size _ _ (wth M n b i0 M.length false) [(n, b)] _ _ rfl rfl HO3.out HLIT.out HST.out (fun b hb => .inr (Nat.le_trans HX3.out.le hb)) (by have := HLEN.out; simp; omega) HX3.out.le ?_)
        intro v' w4 ho hg _
        have HO4 := Lib.hid ho
        have HX4 := Lib.hid (HX3.out.grown hg HO3.out.from_)
        rw [← HFIN.out] at HO4
        clear ho hg
        go_wp2_with fail
        go_ret
        rw [HPUT.out]
        exact ⟨_, rfl, (HO4.out.lower HX1.out.le).mono fun k hk => hk.elim (HSU.out k) fun h => .inr (Nat.le_trans HX1.out.le h), HX1.out.trans HX4.out⟩
end Go.Proofs.Ytjjhmknlhfijjaa
set_option linter.unusedVariables false
set_option linter.unusedSimpArgs false
namespace Go.Proofs.Ytjjhmknlhfijjaa
open Go.RowKit

theorem FilesP.lower {w w1 : World} {S S1 : Nat → Prop} {L : KL Nam} (he : Ext w w1) (hS : ∀ b, S1 b → S b ∨ w.heap.size ≤ b) {e : Ending} {w' : World} (h : FilesP w1 S1 L e w') : FilesP w S L e w' := by
  obtain ⟨u, rfl, h1, h2⟩ := h
  exact ⟨u, rfl, (h1.lower he.le).mono fun b hb => hb.elim (hS b) fun h => .inr (Nat.le_trans he.le h), he.trans h2⟩
set_option maxRecDepth 1000000 in
set_option maxHeartbeats 3200000 in
theorem Do_dp (w : World) (S : Nat → Prop) (lv v : Value) (L : KL Nam) (n : Nam) (bs : Nam) (h : Rs kFile w S lv L) (hv : Rs kByte w S v bs) (hS : ∀ b, S b → b < w.heap.size) (hL : L.length ≤ 90000) (hfit : fitA L (.dp n)) (hsz : sumK L + bs.length ≤ 1073741824) (hn : n.length ≤ 9223372036854775807) :
    Calls Try.prog 76 #[lv, .agg (ractC (.dp n) v)] w (FilesP w S (doA L (.dp n) bs)) := by
  obtain ⟨Av, cv, e, -⟩ := id hv
  subst e
  obtain ⟨Al, cl, e, -⟩ := id h
  subst e
  obtain ⟨ka, hK⟩ : ∃ ka : ActK, ka = (.dp n) := ⟨_, rfl⟩
  have HKE := Lib.hid hK
  have HKC := Lib.hid (show rkind ka = 3 from by rw [hK]; rfl)
  obtain ⟨w1, hw1⟩ : ∃ w1, w1 = w.alloc (.cells (ractC ka (.slice Av bs.length cv)) 97) := ⟨_, rfl⟩
  obtain ⟨g, hg⟩ : ∃ g, g = w.heap.size := ⟨_, rfl⟩
  have hx1 : Ext w w1 := by rw [hw1]; exact (Ext.refl w).alloc _
  have HX1 := Lib.hid hx1
  have HB1 := Lib.hid (show w1.heap[g]? = some (.cells (ractC ka (.slice Av bs.length cv)) 97 (0, 0)) by rw [hw1]; exact heap_new w g hg.symm _)
  have HRL := Lib.hid h
  have HRV := Lib.hid hv
  have HSS := Lib.hid hS
  have HL := Lib.hid hL
  have HFIT := Lib.hid hfit
  have HSZ := Lib.hid hsz
  have HNM := Lib.hid (show (rname ka).length ≤ 9223372036854775807 ∧ (rto ka).length ≤ 9223372036854775807 from by rw [hK]; exact ⟨by exact hn, by simp [rto]⟩)
  have HGT := Lib.hid (get_calls w1 S _ L (rname ka) (h.ext hx1))
  rw [← hK]
  clear h hv hS hL hfit hsz hx1
  have HC := Lib.hid (show ∀ W : World, Ext w1 W → W.cell? ⟨g, 0, none⟩ = some (.int .i64 3) ∧ W.cell? ⟨g, 1, none⟩ = some (.string ⟨(rname ka).toArray⟩) ∧ W.cell? ⟨g, 2, none⟩ = some (.string ⟨(rto ka).toArray⟩) ∧ W.cell? ⟨g, 3, none⟩ = some (.int .i64 (rat ka : Int)) ∧ W.cell? ⟨g, 4, none⟩ = some (.slice Av bs.length cv) from
    fun W he => ⟨by rw [← HKC.out]; exact cell_blk (blk_ext HB1.out he) 0, cell_blk (blk_ext HB1.out he) 1, cell_blk (blk_ext HB1.out he) 2, cell_blk (blk_ext HB1.out he) 3, cell_blk (blk_ext HB1.out he) 4⟩)
  have HRAT := Lib.hid (show rat ka = 0 from by rw [hK]; rfl)
  unfold ractC at hw1 ⊢
  rw [HKC.out] at hw1 ⊢
  clear hK
  go_enter Try.func76, Try.ntmps76
  go_upto_region 1 with fail
  rw [← hw1, ← hg]
  have hgl : g < w1.heap.size := blk_lt HB1.out
  clear hw1 hg
  obtain ⟨x0, x1, x2, x3, x4⟩ := HC.out w1 (Ext.refl _)
  go_wp2_with fail
  refine HGT.out.mono ?_
  rintro e w2 ⟨Ao, co, rfl, hro, hx2⟩
  have HRO := Lib.hid hro
  have HX2 := Lib.hid hx2
  have HX12 := Lib.hid (HX1.out.trans hx2)
  have HOL := Lib.hid (show (bytesK L (rname ka)).length ≤ sumK L from bytesK_le _)
  clear x0 x1 x2 x3 x4 hx2 hro
  obtain ⟨x0, x1, x2, x3, x4⟩ := HC.out w2 HX2.out
  have hgl2 : g < w2.heap.size := Nat.lt_of_lt_of_le hgl HX2.out.le
  go_wp2_with fail
  refine (less_calls w2 S _ L (rname ka) (HRL.out.ext HX12.out) (fun b hb => Nat.lt_of_lt_of_le (HSS.out b hb) HX12.out.le) (by have := HL.out; omega)).mono ?_
  rintro e w3 hp
  obtain ⟨u, rfl, h1, h2⟩ := FilesP.lower (S := S) HX12.out (fun b hb => .inl hb) hp
  have HP1 := Lib.hid h1
  have HP2 := Lib.hid h2
  have HE := Lib.hid (show doA L ka bs = delK L (rname ka) by rw [HKE.out]; rfl)
  clear hp h1 h2
  go_wp2_with fail
  go_ret
  rw [HE.out]
  exact ⟨_, rfl, HP1.out, HP2.out⟩
set_option maxRecDepth 1000000 in
set_option maxHeartbeats 3200000 in
theorem Do_mv (w : World) (S : Nat → Prop) (lv v : Value) (L : KL Nam) (o t : Nam) (bs : Nam) (h : Rs kFile w S lv L) (hv : Rs kByte w S v bs) (hS : ∀ b, S b → b < w.heap.size) (hL : L.length ≤ 90000) (hfit : fitA L (.mv o t)) (hsz : sumK L + bs.length ≤ 1073741824) (ho : o.length ≤ 9223372036854775807) (ht : t.length ≤ 9223372036854775807) :
    Calls Try.prog 76 #[lv, .agg (ractC (.mv o t) v)] w (FilesP w S (doA L (.mv o t) bs)) := by
  obtain ⟨Av, cv, e, -⟩ := id hv
  subst e
  obtain ⟨Al, cl, e, -⟩ := id h
  subst e
  obtain ⟨ka, hK⟩ : ∃ ka : ActK, ka = (.mv o t) := ⟨_, rfl⟩
  have HKE := Lib.hid hK
  have HKC := Lib.hid (show rkind ka = 2 from by rw [hK]; rfl)
  obtain ⟨w1, hw1⟩ : ∃ w1, w1 = w.alloc (.cells (ractC ka (.slice Av bs.length cv)) 97) := ⟨_, rfl⟩
  obtain ⟨g, hg⟩ : ∃ g, g = w.heap.size := ⟨_, rfl⟩
  have hx1 : Ext w w1 := by rw [hw1]; exact (Ext.refl w).alloc _
  have HX1 := Lib.hid hx1
  have HB1 := Lib.hid (show w1.heap[g]? = some (.cells (ractC ka (.slice Av bs.length cv)) 97 (0, 0)) by rw [hw1]; exact heap_new w g hg.symm _)
  have HRL := Lib.hid h
  have HRV := Lib.hid hv
  have HSS := Lib.hid hS
  have HL := Lib.hid hL
  have HFIT := Lib.hid hfit
  have HSZ := Lib.hid hsz
  have HNM := Lib.hid (show (rname ka).length ≤ 9223372036854775807 ∧ (rto ka).length ≤ 9223372036854775807 from by rw [hK]; exact ⟨by exact ho, by exact ht⟩)
  have HGT := Lib.hid (get_calls w1 S _ L (rname ka) (h.ext hx1))
  rw [← hK]
  clear h hv hS hL hfit hsz hx1
  have HC := Lib.hid (show ∀ W : World, Ext w1 W → W.cell? ⟨g, 0, none⟩ = some (.int .i64 2) ∧ W.cell? ⟨g, 1, none⟩ = some (.string ⟨(rname ka).toArray⟩) ∧ W.cell? ⟨g, 2, none⟩ = some (.string ⟨(rto ka).toArray⟩) ∧ W.cell? ⟨g, 3, none⟩ = some (.int .i64 (rat ka : Int)) ∧ W.cell? ⟨g, 4, none⟩ = some (.slice Av bs.length cv) from
    fun W he => ⟨by rw [← HKC.out]; exact cell_blk (blk_ext HB1.out he) 0, cell_blk (blk_ext HB1.out he) 1, cell_blk (blk_ext HB1.out he) 2, cell_blk (blk_ext HB1.out he) 3, cell_blk (blk_ext HB1.out he) 4⟩)
  have HRAT := Lib.hid (show rat ka = 0 from by rw [hK]; rfl)
  unfold ractC at hw1 ⊢
  rw [HKC.out] at hw1 ⊢
  clear hK
  go_enter Try.func76, Try.ntmps76
  go_upto_region 1 with fail
  rw [← hw1, ← hg]
  have hgl : g < w1.heap.size := blk_lt HB1.out
  clear hw1 hg
  obtain ⟨x0, x1, x2, x3, x4⟩ := HC.out w1 (Ext.refl _)
  go_wp2_with fail
  refine HGT.out.mono ?_
  rintro e w2 ⟨Ao, co, rfl, hro, hx2⟩
  have HRO := Lib.hid hro
  have HX2 := Lib.hid hx2
  have HX12 := Lib.hid (HX1.out.trans hx2)
  have HOL := Lib.hid (show (bytesK L (rname ka)).length ≤ sumK L from bytesK_le _)
  clear x0 x1 x2 x3 x4 hx2 hro
  obtain ⟨x0, x1, x2, x3, x4⟩ := HC.out w2 HX2.out
  have hgl2 : g < w2.heap.size := Nat.lt_of_lt_of_le hgl HX2.out.le
  clear x0 x1 x2 x3 x4
  have HSB2 := Lib.hid (show ∀ b, S b → b < w2.heap.size from fun b hb => Nat.lt_of_lt_of_le (HSS.out b hb) HX12.out.le)
  obtain ⟨x0, x1, x2, x3, x4⟩ := HC.out w2 HX2.out
  go_upto_region 14 with fail
  have H0 := Lib.hid (HC.out _ (HX2.out.trans (Ext.refl w2).drew)).2
  refine wpF_region (fun W => W.cell? ⟨g, 1, none⟩ = some (.string ⟨(rname ka).toArray⟩) ∧ W.cell? ⟨g, 2, none⟩ = some (.string ⟨(rto ka).toArray⟩) ∧ W.cell? ⟨g, 3, none⟩ = some (.int .i64 (rat ka : Int)) ∧ W.cell? ⟨g, 4, none⟩ = some (.slice Av bs.length cv)) (fun _ => True) 99 9 (by kernel_rfl) (by kernel_rfl) ?_
  refine wpF_take0 (i := 0) (v := ?v1) rfl (by kernel_rfl) (by kernel_rfl) (by kernel_rfl) (fun _ _ _ h => h) (by kernel_rfl) (Or.inl ⟨by rfl, ?hy1⟩) H0.out (fun _ => trivial) ?rest1
  case hy1 => (intro W hSW; (try dsimp only at hSW); go_simp; (try with_reducible rfl))
  (try simp only [Act.put, List.setIfInBounds_toArray, List.set_cons_zero, List.set_cons_succ])
  refine wpF_take0 (i := 1) (v := ?v2) rfl (by kernel_rfl) (by kernel_rfl) (by kernel_rfl) (fun _ _ _ h => h) (by kernel_rfl) (Or.inl ⟨by rfl, ?hy2⟩) H0.out (fun _ => trivial) ?rest2
  case hy2 => (intro W hSW; (try dsimp only at hSW); go_simp; (try with_reducible rfl))
  (try simp only [Act.put, List.setIfInBounds_toArray, List.set_cons_zero, List.set_cons_succ])
  refine wpF_take0 (i := 2) (v := ?v3) rfl (by kernel_rfl) (by kernel_rfl) (by kernel_rfl) (fun _ _ _ h => h) (by kernel_rfl) (Or.inl ⟨by rfl, ?hy3⟩) H0.out (fun _ => trivial) ?rest3
  case hy3 => (intro W hSW; (try dsimp only at hSW); go_simp; (try with_reducible rfl))
  (try simp only [Act.put, List.setIfInBounds_toArray, List.set_cons_zero, List.set_cons_succ])
  refine wpF_take0 (i := 4) (v := ?v4) rfl (by kernel_rfl) (by kernel_rfl) (by kernel_rfl) (fun _ _ _ h => h) (by kernel_rfl) (Or.inl ⟨by rfl, ?hy4⟩) H0.out (fun _ => trivial) ?rest4
  case hy4 => (intro W hSW; (try dsimp only at hSW); go_simp; (try with_reducible rfl))
  (try simp only [Act.put, List.setIfInBounds_toArray, List.set_cons_zero, List.set_cons_succ])
  refine wpF_take0 (i := 5) (v := ?v5) rfl (by kernel_rfl) (by kernel_rfl) (by kernel_rfl) (fun _ _ _ h => h) (by kernel_rfl) (Or.inl ⟨by rfl, ?hy5⟩) H0.out (fun _ => trivial) ?rest5
  case hy5 => (intro W hSW; (try dsimp only at hSW); go_simp; (try with_reducible rfl))
  (try simp only [Act.put, List.setIfInBounds_toArray, List.set_cons_zero, List.set_cons_succ])
  refine wpF_take0 (i := 6) (v := ?v6) rfl (by kernel_rfl) (by kernel_rfl) (by kernel_rfl) (fun _ _ _ h => h) (by kernel_rfl) (Or.inl ⟨by rfl, ?hy6⟩) H0.out (fun _ => trivial) ?rest6
  case hy6 => (intro W hSW; (try dsimp only at hSW); go_simp; (try with_reducible rfl))
  (try simp only [Act.put, List.setIfInBounds_toArray, List.set_cons_zero, List.set_cons_succ])
  refine wpF_step (i := 3) (by kernel_rfl) rfl (fun K hK => ?_)
  go_simp
  refine (less_calls w2.drew S _ L (rname ka) (HRL.out.ext (HX12.out.trans (Ext.refl w2).drew)) (fun b hb => HSB2.out b hb) (by have := HL.out; omega)).mono ?_
  rintro e w3 ⟨u3, rfl, ho3, hx3⟩
  have HX3 := Lib.hid ((Ext.refl w2).drew.trans hx3)
  have HR3 := Lib.hid ho3.rs.bound
  obtain ⟨A3, c3, e3, -⟩ := id HR3.out
  obtain ⟨m3, hm3⟩ : ∃ m, m = (delK L (rname ka)).length := ⟨_, rfl⟩
  rw [← hm3] at e3
  clear hm3
  subst e3
  have H1 := Lib.hid (HC.out _ (HX2.out.trans HX3.out)).2
  clear ho3 hx3
  (try go_wp2_with fail)
  refine hK.out _ _ H1.out (fun _ => trivial) ?_
  clear hK K
  (try simp only [Act.put, List.setIfInBounds_toArray, List.set_cons_zero, List.set_cons_succ])
  refine wpF_step (i := 7) (by kernel_rfl) rfl (fun K hK => ?_)
  go_simp
  refine (with_calls w3 (fun b => (S b ∨ w2.heap.size ≤ b) ∧ b < w3.heap.size) _ _ (delK L (rname ka)) (rto ka) (bytesK L (rname ka)) (HR3.out) ((HRO.out.ext HX3.out).bound.mono fun b hb => ⟨.inl hb.1, hb.2⟩) (fun b hb => hb.2) (by have := HL.out; have := delK_le L (rname ka); omega) HNM.out.2).mono ?_
  rintro e w4 hp
  obtain ⟨u, rfl, h1, h2⟩ := FilesP.lower (S := S) (HX12.out.trans HX3.out) (fun b hb => hb.1.elim .inl fun h => .inr (Nat.le_trans HX12.out.le h)) hp
  have HP1 := Lib.hid h1
  have HP2 := Lib.hid h2
  have H4 := Lib.hid (HC.out _ (show Ext w1 w4 from (HX2.out.trans HX3.out).trans (by obtain ⟨_, _, _, h⟩ := hp; exact h))).2
  clear hp h1 h2
  (try go_wp2_with fail)
  refine hK.out _ _ H4.out (fun _ => trivial) ?_
  clear hK K
  (try simp only [Act.put, List.setIfInBounds_toArray, List.set_cons_zero, List.set_cons_succ])
  refine wpF_take0 (i := 8) (v := ?v7) rfl (by kernel_rfl) (by kernel_rfl) (by kernel_rfl) (fun _ _ _ h => h) (by kernel_rfl) (Or.inl ⟨by rfl, ?hy7⟩) H4.out (fun _ => trivial) ?rest7
  case hy7 => (intro W hSW; (try dsimp only at hSW); go_simp; (try with_reducible rfl))
  (try simp only [Act.put, List.setIfInBounds_toArray, List.set_cons_zero, List.set_cons_succ])

  refine wpF_done (by kernel_rfl) ?_ _
  refine NoPanic.normal ?_
  have HE := Lib.hid (show doA L ka bs = putK (delK L (rname ka)) (rto ka) (bytesK L (rname ka)) by rw [HKE.out]; rfl)
  go_wp2_with fail
  go_ret
  rw [HE.out]
  exact ⟨_, rfl, HP1.out, HP2.out⟩
end Go.Proofs.Ytjjhmknlhfijjaa
set_option linter.unusedVariables false
set_option linter.unusedSimpArgs false
namespace Go.Proofs.Ytjjhmknlhfijjaa
open Go.RowKit

set_option maxRecDepth 1000000 in
set_option maxHeartbeats 3200000 in
theorem Do_tr (w : World) (S : Nat → Prop) (lv v : Value) (L : KL Nam) (n : Nam) (a : Nat) (bs : Nam) (h : Rs kFile w S lv L) (hv : Rs kByte w S v bs) (hS : ∀ b, S b → b < w.heap.size) (hL : L.length ≤ 90000) (hfit : fitA L (.tr n a)) (hsz : sumK L + bs.length ≤ 1073741824) (hn : n.length ≤ 9223372036854775807) :
    Calls Try.prog 76 #[lv, .agg (ractC (.tr n a) v)] w (FilesP w S (doA L (.tr n a) bs)) := by
  obtain ⟨Av, cv, e, -⟩ := id hv
  subst e
  obtain ⟨Al, cl, e, -⟩ := id h
  subst e
  obtain ⟨ka, hK⟩ : ∃ ka : ActK, ka = (.tr n a) := ⟨_, rfl⟩
  have HKE := Lib.hid hK
  have HKC := Lib.hid (show rkind ka = 1 from by rw [hK]; rfl)
  obtain ⟨w1, hw1⟩ : ∃ w1, w1 = w.alloc (.cells (ractC ka (.slice Av bs.length cv)) 97) := ⟨_, rfl⟩
  obtain ⟨g, hg⟩ : ∃ g, g = w.heap.size := ⟨_, rfl⟩
  have hx1 : Ext w w1 := by rw [hw1]; exact (Ext.refl w).alloc _
  have HX1 := Lib.hid hx1
  have HB1 := Lib.hid (show w1.heap[g]? = some (.cells (ractC ka (.slice Av bs.length cv)) 97 (0, 0)) by rw [hw1]; exact heap_new w g hg.symm _)
  have HRL := Lib.hid h
  have HRV := Lib.hid hv
  have HSS := Lib.hid hS
  have HL := Lib.hid hL
  have HFIT := Lib.hid hfit
  have HSZ := Lib.hid hsz
  have HNM := Lib.hid (show (rname ka).length ≤ 9223372036854775807 ∧ (rto ka).length ≤ 9223372036854775807 from by rw [hK]; exact ⟨by exact hn, by simp [rto]⟩)
  have HGT := Lib.hid (get_calls w1 S _ L (rname ka) (h.ext hx1))
  rw [← hK]
  clear h hv hS hL hfit hsz hx1
  have HC := Lib.hid (show ∀ W : World, Ext w1 W → W.cell? ⟨g, 0, none⟩ = some (.int .i64 1) ∧ W.cell? ⟨g, 1, none⟩ = some (.string ⟨(rname ka).toArray⟩) ∧ W.cell? ⟨g, 2, none⟩ = some (.string ⟨(rto ka).toArray⟩) ∧ W.cell? ⟨g, 3, none⟩ = some (.int .i64 (rat ka : Int)) ∧ W.cell? ⟨g, 4, none⟩ = some (.slice Av bs.length cv) from
    fun W he => ⟨by rw [← HKC.out]; exact cell_blk (blk_ext HB1.out he) 0, cell_blk (blk_ext HB1.out he) 1, cell_blk (blk_ext HB1.out he) 2, cell_blk (blk_ext HB1.out he) 3, cell_blk (blk_ext HB1.out he) 4⟩)
  have HRAT := Lib.hid (show rat ka = a from by rw [hK]; rfl)
  unfold ractC at hw1 ⊢
  rw [HKC.out] at hw1 ⊢
  clear hK
  go_enter Try.func76, Try.ntmps76
  go_upto_region 1 with fail
  rw [← hw1, ← hg]
  have hgl : g < w1.heap.size := blk_lt HB1.out
  clear hw1 hg
  obtain ⟨x0, x1, x2, x3, x4⟩ := HC.out w1 (Ext.refl _)
  go_wp2_with fail
  refine HGT.out.mono ?_
  rintro e w2 ⟨Ao, co, rfl, hro, hx2⟩
  have HRO := Lib.hid hro
  have HX2 := Lib.hid hx2
  have HX12 := Lib.hid (HX1.out.trans hx2)
  have HOL := Lib.hid (show (bytesK L (rname ka)).length ≤ sumK L from bytesK_le _)
  clear x0 x1 x2 x3 x4 hx2 hro
  obtain ⟨x0, x1, x2, x3, x4⟩ := HC.out w2 HX2.out
  have hgl2 : g < w2.heap.size := Nat.lt_of_lt_of_le hgl HX2.out.le
  have HFA := Lib.hid (show rat ka ≤ (bytesK L (rname ka)).length by rw [HRAT.out]; have h := HFIT.out; rw [HKE.out]; exact h)
  obtain ⟨hm1, hm2, hm3, hm4, -⟩ := HRO.out.shape
  have hto := slice_to tBytes Ao (bytesK L (rname ka)).length co .i64 (rat ka : Int) (rat ka) rfl (by have := HFA.out; omega)
  have HPT := Lib.hid (HRO.out.to_ (h := rat ka) rfl HFA.out)
  simp only [partV_eq, Nat.sub_zero] at hto HPT
  have HTL := Lib.hid (show ((bytesK L (rname ka)).take (rat ka)).length = rat ka by rw [List.length_take]; have := HFA.out; omega)
  have HLEN := Lib.hid (show (bytesK L (rname ka)).length + bs.length ≤ 1073741824 by have h1 := HOL.out; have h2 := HSZ.out; omega)
  clear hm1 hm2 hm3 hm4
  go_upto_region 12 with fail
  have hx0 := Lib.hid ((Ext.refl w2).drew)
  have H0 := Lib.hid (HC.out _ (HX2.out.trans hx0.out)).2
  clear x0 x1 x2 x3 x4
  refine wpF_region (fun W => W.cell? ⟨g, 1, none⟩ = some (.string ⟨(rname ka).toArray⟩) ∧ W.cell? ⟨g, 2, none⟩ = some (.string ⟨(rto ka).toArray⟩) ∧ W.cell? ⟨g, 3, none⟩ = some (.int .i64 (rat ka : Int)) ∧ W.cell? ⟨g, 4, none⟩ = some (.slice Av bs.length cv)) (fun _ => True) 99 11 (by kernel_rfl) (by kernel_rfl) ?_
  refine wpF_take0 (i := 0) (v := ?v8) rfl (by kernel_rfl) (by kernel_rfl) (by kernel_rfl) (fun _ _ _ h => h) (by kernel_rfl) (Or.inl ⟨by rfl, ?hy8⟩) H0.out (fun _ => trivial) ?rest8
  case hy8 => (intro W hSW; (try dsimp only at hSW); go_simp; (try with_reducible rfl))
  (try simp only [Act.put, List.setIfInBounds_toArray, List.set_cons_zero, List.set_cons_succ])
  refine wpF_take0 (i := 1) (v := ?v9) rfl (by kernel_rfl) (by kernel_rfl) (by kernel_rfl) (fun _ _ _ h => h) (by kernel_rfl) (Or.inl ⟨by rfl, ?hy9⟩) H0.out (fun _ => trivial) ?rest9
  case hy9 => (intro W hSW; (try dsimp only at hSW); go_simp; (try with_reducible rfl))
  (try simp only [Act.put, List.setIfInBounds_toArray, List.set_cons_zero, List.set_cons_succ])
  refine wpF_take0 (i := 2) (v := ?v10) rfl (by kernel_rfl) (by kernel_rfl) (by kernel_rfl) (fun _ _ _ h => h) (by kernel_rfl) (Or.inl ⟨by rfl, ?hy10⟩) H0.out (fun _ => trivial) ?rest10
  case hy10 => (intro W hSW; (try dsimp only at hSW); go_simp; (try with_reducible rfl))
  (try simp only [Act.put, List.setIfInBounds_toArray, List.set_cons_zero, List.set_cons_succ])
  refine wpF_take0 (i := 4) (v := ?v11) rfl (by kernel_rfl) (by kernel_rfl) (by kernel_rfl) (fun _ _ _ h => h) (by kernel_rfl) (Or.inl ⟨by rfl, ?hy11⟩) H0.out (fun _ => trivial) ?rest11
  case hy11 => (intro W hSW; (try dsimp only at hSW); go_simp; (try with_reducible rfl))
  (try simp only [Act.put, List.setIfInBounds_toArray, List.set_cons_zero, List.set_cons_succ])
  refine wpF_take0 (i := 5) (v := ?v12) rfl (by kernel_rfl) (by kernel_rfl) (by kernel_rfl) (fun _ _ _ h => h) (by kernel_rfl) (Or.inl ⟨by rfl, ?hy12⟩) H0.out (fun _ => trivial) ?rest12
  case hy12 => (intro W hSW; (try dsimp only at hSW); go_simp; (try with_reducible rfl))
  (try simp only [Act.put, List.setIfInBounds_toArray, List.set_cons_zero, List.set_cons_succ])
  refine wpF_take0 (i := 6) (v := ?v13) rfl (by kernel_rfl) (by kernel_rfl) (by kernel_rfl) (fun _ _ _ h => h) (by kernel_rfl) (Or.inl ⟨by rfl, ?hy13⟩) H0.out (fun _ => trivial) ?rest13
  case hy13 => (intro W hSW; (try dsimp only at hSW); go_simp; (try with_reducible rfl))
  (try simp only [Act.put, List.setIfInBounds_toArray, List.set_cons_zero, List.set_cons_succ])
  refine wpF_take0 (i := 7) (v := ?v14) rfl (by kernel_rfl) (by kernel_rfl) (by kernel_rfl) (fun _ _ _ h => h) (by kernel_rfl) (Or.inl ⟨by rfl, ?hy14⟩) H0.out (fun _ => trivial) ?rest14
  case hy14 => (intro W hSW; (try dsimp only at hSW); go_simp; (try with_reducible rfl))
  (try simp only [Act.put, List.setIfInBounds_toArray, List.set_cons_zero, List.set_cons_succ])
  have hx1 := Lib.hid (((Ext.refl w2).drew).alloc (.cells #[] 5))
  have H1 := Lib.hid (HC.out _ (HX2.out.trans hx1.out)).2
  refine wpF_step (i := 3) (by kernel_rfl) rfl (fun K hK => ?_)
  go_simp
  refine hK.out _ _ H1.out (fun _ => trivial) ?_
  clear hK K
  (try simp only [Act.put, List.setIfInBounds_toArray, List.set_cons_zero, List.set_cons_succ])
  refine wpF_step (i := 8) (by kernel_rfl) rfl (fun K hK => ?_)
  refine step_append_Rs kByte 63 rfl rfl (.tmp 58) (.tmp 62) 23 5 rfl tBytes w2.heap.size _ _ [] ((bytesK L (rname ka)).take (rat ka)) (w2.heap.size ≤ ·) S rfl rfl (Ow.slit (xs := []) (heap_alloc_new _ _) (Nat.le_refl _) (Nat.le_refl _) (by simp) (by simp)) (HPT.out.ext hx1.out) (fun _ _ h => h) (fun k hk => Nat.le_trans hx1.out.le hk) (by rw [HTL.out]; have := HFA.out; have := HLEN.out; simp; omega) (hx1.out.le) ?_
  intro v' w3 ho hg hbk
  rw [List.nil_append] at ho
  have HX3 := Lib.hid (show Ext w2 w3 from (((Ext.refl w2).drew).alloc (.cells #[] 5)).grown hg (fun k hk => by have e : some w2.heap.size = some k := hk; injection e with e; omega))
  have HR3 := Lib.hid ho.rs.bound
  have H3 := Lib.hid (HC.out _ (HX2.out.trans HX3.out)).2
  clear ho hg hbk hto
  refine hK.out _ _ H3.out (fun _ => trivial) ?_
  clear hK K
  (try simp only [Act.put, List.setIfInBounds_toArray, List.set_cons_zero, List.set_cons_succ])
  refine wpF_step (i := 9) (by kernel_rfl) rfl (fun K hK => ?_)
  go_simp
  refine (with_calls w3 (fun b => (S b ∨ w2.heap.size ≤ b) ∧ b < w3.heap.size) _ _ L (rname ka) ((bytesK L (rname ka)).take (rat ka)) ((HRL.out.ext (HX12.out.trans HX3.out)).bound.mono fun b hb => ⟨.inl hb.1, hb.2⟩) (HR3.out.mono fun b hb => ⟨.inr hb.1, hb.2⟩) (fun b hb => hb.2) (by have := HL.out; omega) HNM.out.1).mono ?_
  rintro e w4 hp
  obtain ⟨u, rfl, h1, h2⟩ := FilesP.lower (S := S) (HX12.out.trans HX3.out) (fun b hb => hb.1.elim .inl fun h => .inr (Nat.le_trans HX12.out.le h)) hp
  have HP1 := Lib.hid h1
  have HP2 := Lib.hid h2
  have H4 := Lib.hid (HC.out _ (show Ext w1 w4 from (HX2.out.trans HX3.out).trans (by obtain ⟨_, _, _, h⟩ := hp; exact h))).2
  clear hp h1 h2
  (try go_wp2_with fail)
  refine hK.out _ _ H4.out (fun _ => trivial) ?_
  clear hK K
  (try simp only [Act.put, List.setIfInBounds_toArray, List.set_cons_zero, List.set_cons_succ])
  refine wpF_take0 (i := 10) (v := ?v15) rfl (by kernel_rfl) (by kernel_rfl) (by kernel_rfl) (fun _ _ _ h => h) (by kernel_rfl) (Or.inl ⟨by rfl, ?hy15⟩) H4.out (fun _ => trivial) ?rest15
  case hy15 => (intro W hSW; (try dsimp only at hSW); go_simp; (try with_reducible rfl))
  (try simp only [Act.put, List.setIfInBounds_toArray, List.set_cons_zero, List.set_cons_succ])

  refine wpF_done (by kernel_rfl) ?_ _
  refine NoPanic.normal ?_
  have HE := Lib.hid (show doA L ka bs = putK L (rname ka) ((bytesK L (rname ka)).take (rat ka)) by rw [HRAT.out, HKE.out]; rfl)
  go_wp2_with fail
  go_ret
  rw [HE.out]
  exact ⟨_, rfl, HP1.out, HP2.out⟩
end Go.Proofs.Ytjjhmknlhfijjaa
