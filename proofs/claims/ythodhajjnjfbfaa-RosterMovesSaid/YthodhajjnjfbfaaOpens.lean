/-
  What an argument reads as: from the form's own reading to the words of Kit.
-/
import Derived.Test.YthodhajjnjfbfaaKit
import Derived.ProofKit
import Derived.OpenShut
import Derived.ChangeOld
import Derived.SizedLaws
set_option linter.unusedVariables false
set_option linter.unusedSimpArgs false
namespace Go.Proofs.Ythodhajjnjfbfaa
open Go.RowKit

/-- A kind that every reading of the type t tells. -/
def Opens (P : Program) (t : TypeId) {α : Type} (d : Kd α) : Prop :=
  P.cellsOf t = d.sz ∧ ∀ (H : Type) (enc : TypeId × Value → H) (w : World) (base : Nat) (spare : Nat → Bool) (held : Bool) (fuel : Nat) (cs : List Value) (x : DataW H × List MemPlace),
    DataW.trod enc P w base spare held fuel t cs = some x → (∀ n ∈ x.1.weights P t, n ≤ reachBytes) → ∃ a : α, d.K w (· < w.heap.size) a cs

theorem opens_int {P : Program} {t : TypeId} (ht : P.underlying t = some (.int .i64)) (hc : P.cellsOf t = 1) : Opens P t kInt :=
  ⟨hc, fun _ _ _ _ _ _ _ _ _ h hw0 => by
    obtain ⟨n, rfl, _, hw⟩ := DataW.trod_int ht h
    exact ⟨n, rfl, bounds_i64 hw⟩⟩
theorem opens_bool {P : Program} {t : TypeId} (ht : P.underlying t = some .bool) (hc : P.cellsOf t = 1) : Opens P t kBool :=
  ⟨hc, fun _ _ _ _ _ _ _ _ _ h hw0 => by
    obtain ⟨b, rfl, _⟩ := DataW.trod_bool ht h
    exact ⟨b, rfl, trivial⟩⟩
theorem opens_byte {P : Program} {t : TypeId} (ht : P.underlying t = some (.int .u8)) (hc : P.cellsOf t = 1) : Opens P t kByte :=
  ⟨hc, fun _ _ _ _ _ _ _ _ _ h hw0 => by
    obtain ⟨n, rfl, _, hw⟩ := DataW.trod_int ht h
    have hb := bounds_u8 hw
    refine ⟨UInt8.ofNat n.toNat, ?_, trivial⟩
    show [Value.int .u8 n] = [Value.int .u8 ((UInt8.ofNat n.toNat).toNat : Int)]
    rw [UInt8.toNat_ofNat', Nat.mod_eq_of_lt (by omega)]
    congr 2
    omega⟩
theorem weightsAll_mem {H : Type} {P : Program} {e : TypeId} : ∀ (l : List (DataW H)) (d : DataW H), d ∈ l → ∀ n ∈ d.weights P e, n ∈ DataW.weightsAll P e l
  | x :: l, d, hd, n, hn => by
    simp only [DataW.weightsAll, List.mem_append]
    rcases List.mem_cons.1 hd with h | h
    · exact .inl (h ▸ hn)
    · exact .inr (weightsAll_mem l d h n hn)
theorem cells_get {w : World} {base n : Nat} {a : Addr} {cs : List Value} (h : w.cells? base a n = some cs) : base ≤ a.block ∧ cs.length = n ∧ ∀ i, i < n → w.cell? (a.add i) = cs[i]? := by
  unfold World.cells? at h
  split at h
  · rename_i hb
    exact ⟨hb, by simpa using mapM_some_length h, fun i hi => by simpa using mapM_some_get h i i (by simp [hi])⟩
  · cases h
theorem opens_row {P : Program} {t e : TypeId} {α : Type} {d : Kd α} (ht : P.underlying t = some (.slice e)) (hd : Opens P e d) (hsz : 0 < d.sz) (hby : 1 ≤ P.bytesOf e) {H : Type} {enc : TypeId × Value → H} {w : World} {base : Nat} {spare : Nat → Bool} {held : Bool} {fuel : Nat} {cs : List Value} {x : DataW H × List MemPlace}
    (h : DataW.trod enc P w base spare held fuel t cs = some x) (hwt : ∀ n ∈ x.1.weights P t, n ≤ reachBytes) : ∃ v xs, cs = [v] ∧ Rs d w (· < w.heap.size) v xs := by
  rcases DataW.trod_slice ht h with ⟨rfl, _⟩ | ⟨a, len, cap, elems, rest, n, _, rfl, hxe, hb, hl, hc, he, hx, hsp⟩
  · exact ⟨_, [], rfl, Rs.nil _ _ _⟩
  · clear hsp
    rw [hxe] at hwt
    simp only [DataW.weights, ht, List.mem_cons, List.mem_append, List.length_map] at hwt
    have hlen47 : len ≤ 140737488355328 := by
      have h1 := hwt _ (.inl rfl)
      have h2 : len * 1 ≤ (elems.length + rest.length) * P.bytesOf e := Nat.mul_le_mul (by omega) hby
      have h3 := reachBytes_lt
      omega
    have hwe : ∀ y ∈ elems, ∀ n ∈ y.1.weights P e, n ≤ reachBytes := fun y hy n hn => hwt n (.inr (.inl (weightsAll_mem _ _ (List.mem_map_of_mem hy) n hn)))
    clear hwt hxe
    rw [hd.1] at hx
    have hex : ∀ i : Nat, i < len → ∃ y : α, ∃ cs', w.cells? base (a.add (i * d.sz)) d.sz = some cs' ∧ d.K w (· < w.heap.size) y cs' := by
      intro i hi
      have h1 := hx i hi
      rw [List.getElem?_eq_getElem (by omega)] at h1
      obtain ⟨cs', h2, h3⟩ := Option.bind_eq_some_iff.1 h1
      obtain ⟨y, hy⟩ := hd.2 _ _ _ _ _ _ _ _ _ h3 (hwe _ (List.getElem_mem _))
      exact ⟨y, cs', h2, hy⟩
    obtain ⟨ys, hyl, hys⟩ : ∃ ys : List α, ys.length = len ∧ ∀ i (hi : i < ys.length), ∃ cs', w.cells? base (a.add (i * d.sz)) d.sz = some cs' ∧ d.K w (· < w.heap.size) ys[i] cs' := by
      clear hx he h hl hlen47 hwe
      induction len with
      | zero => exact ⟨[], rfl, fun i hi => by simp at hi⟩
      | succ m ih =>
        obtain ⟨ys, h1, h2⟩ := ih (fun i hi => hex i (by omega))
        obtain ⟨y, hy⟩ := hex m (by omega)
        refine ⟨ys ++ [y], by simp [h1], fun i hi => ?_⟩
        rcases Nat.lt_or_ge i ys.length with h3 | h3
        · rw [List.getElem_append_left h3]; exact h2 i h3
        · have : i = m := by simp at hi; omega
          subst this
          rw [List.getElem_append_right h3]
          simpa using hy
    refine ⟨_, ys, rfl, some a, cap, by rw [hyl], by omega, by simpa [maxLen] using hc, by omega, fun hp => ?_⟩
    have hblk : a.block < w.heap.size := by
      obtain ⟨cs', h1, h2⟩ := hys 0 hp
      obtain ⟨_, h4, h5⟩ := cells_get h1
      have h6 := h5 0 hsz
      rw [List.getElem?_eq_getElem (by omega)] at h6
      have := World.block_lt_of_cell? w _ h6
      simpa [addb] using this
    refine ⟨a, rfl, hblk, hblk, fun j y hj => ?_⟩
    obtain ⟨hj', rfl⟩ := List.getElem?_eq_some_iff.1 hj
    obtain ⟨cs', h1, h2⟩ := hys j hj'
    obtain ⟨_, h4, h5⟩ := cells_get h1
    refine ⟨cs', h2, fun i u hi => ?_⟩
    have hi' : i < d.sz := by have := (List.getElem?_eq_some_iff.1 hi).1; omega
    have := h5 i hi'
    rw [add_of_add] at this
    rw [this]; exact hi
theorem opens_slice {P : Program} {t e : TypeId} {α : Type} {d : Kd α} (ht : P.underlying t = some (.slice e)) (hc : P.cellsOf t = 1) (hd : Opens P e d) (hsz : 0 < d.sz) (hby : 1 ≤ P.bytesOf e) : Opens P t (kSlice d) :=
  ⟨hc, fun _ _ _ _ _ _ _ _ _ h hw0 => by
    obtain ⟨v, xs, rfl, hr⟩ := opens_row ht hd hsz hby h hw0
    exact ⟨xs, v, rfl, hr⟩⟩
/-- A parameter that is a slice. -/
theorem slice_arg {P : Program} {t e : TypeId} {α : Type} {d : Kd α} (ht : P.underlying t = some (.slice e)) (hd : Opens P e d) (hsz : 0 < d.sz) (hby : 1 ≤ P.bytesOf e) {H : Type} {enc : TypeId × Value → H} {w : World} {base : Nat} {spare : Nat → Bool} {held : Bool} {a : Option Addr} {len cap : Nat} {y : DataW H} {ps : List MemPlace}
    {ts : List TypeId} {ds : List (DataW H)} (hwt : (DataW.weightsEach P ts ds).all (· ≤ reachBytes) = true) (j : Nat) (hj : ts[j]? = some t) (hk : ds[j]? = some y)
    (h : DataW.Trod enc P w base spare held t (.slice a len cap) y ps) : ∃ xs, Rs d w (· < w.heap.size) (.slice a len cap) xs := by
  obtain ⟨fuel, hf⟩ := h
  obtain ⟨v, xs, h1, h2⟩ := opens_row ht hd hsz hby hf fun n hn => by
    have := List.all_eq_true.1 hwt _ (DataW.weights_mem_each hj hk n hn)
    simpa using this
  simp [Value.cells] at h1
  exact ⟨xs, h1 ▸ h2⟩
end Go.Proofs.Ythodhajjnjfbfaa
