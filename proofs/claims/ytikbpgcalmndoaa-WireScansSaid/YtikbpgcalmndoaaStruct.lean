/-
  Kinds of structs, by pairs; what a struct that is handed in reads as.
-/
import Derived.Test.YtikbpgcalmndoaaTypes
import Derived.ChangeArms
set_option linter.unusedVariables false
set_option linter.unusedSimpArgs false
namespace Go.Proofs.Ytikbpgcalmndoaa
open Go.RowKit

def Kd.unit : Kd Unit where
  sz := 0
  K := fun _ _ _ cs => cs = []
  len := fun h => by rw [h]; rfl
  one := fun h u hu => by rw [h] at hu; cases hu
  mono := fun _ h => h
  move := fun _ h => h
  bound := fun h => h
def Kd.pair {α β : Type} (a : Kd α) (b : Kd β) : Kd (α × β) where
  sz := a.sz + b.sz
  K := fun w S x cs => ∃ c1 c2, cs = c1 ++ c2 ∧ a.K w S x.1 c1 ∧ b.K w S x.2 c2
  len := by rintro w S x cs ⟨c1, c2, rfl, h1, h2⟩; rw [List.length_append, a.len h1, b.len h2]
  one := by
    rintro w S x cs ⟨c1, c2, rfl, h1, h2⟩ u hu
    rcases List.mem_append.1 hu with h | h
    · exact a.one h1 u h
    · exact b.one h2 u h
  mono := by rintro w S S' x cs h ⟨c1, c2, rfl, h1, h2⟩; exact ⟨c1, c2, rfl, a.mono h h1, b.mono h h2⟩
  move := by rintro w w' S x cs h ⟨c1, c2, rfl, h1, h2⟩; exact ⟨c1, c2, rfl, a.move h h1, b.move h h2⟩
  bound := by rintro w S x cs ⟨c1, c2, rfl, h1, h2⟩; exact ⟨c1, c2, rfl, a.bound h1, b.bound h2⟩

/-- Fields, from a cell on. -/
def OpensF (P : Program) (fs : List Field) (off : Nat) {α : Type} (d : Kd α) : Prop :=
  ∀ (H : Type) (enc : TypeId × Value → H) (w : World) (base : Nat) (spare : Nat → Bool) (held : Bool) (fuel : Nat) (cs : List Value) (xs : List (DataW H × List MemPlace)), xs.length = fs.length →
    (∀ (i : Nat) (f : Field), fs[i]? = some f → DataW.trod enc P w base spare held fuel f.type ((cs.drop f.offset).take (P.cellsOf f.type)) = xs[i]?) →
    (∀ n ∈ DataW.weightsEach P (fs.map (·.type)) (xs.map (·.1)), n ≤ reachBytes) → ∃ a : α, d.K w (· < w.heap.size) a ((cs.drop off).take d.sz)
theorem opensF_nil {P : Program} {off : Nat} : OpensF P [] off Kd.unit := fun _ _ _ _ _ _ _ _ _ _ _ _ => ⟨(), by simp [Kd.unit]⟩
theorem opensF_cons {P : Program} {f : Field} {fs : List Field} {off : Nat} {α β : Type} {a : Kd α} {b : Kd β} (ho : f.offset = off) (ha : Opens P f.type a) (hb : OpensF P fs (off + a.sz) b) : OpensF P (f :: fs) off (Kd.pair a b) := by
  intro H enc w base spare held fuel cs xs hl hf hw
  match xs, hl with
  | x :: xs, hl =>
    have h0 := hf 0 f rfl
    simp only [List.getElem?_cons_zero] at h0
    simp only [List.map_cons, DataW.weightsEach, List.mem_append] at hw
    obtain ⟨ya, hya⟩ := ha.2 H enc w base spare held fuel _ x h0 fun n hn => hw n (.inl hn)
    obtain ⟨yb, hyb⟩ := hb H enc w base spare held fuel cs xs (by simpa using hl) (fun i g hg => by
      have := hf (i + 1) g (by simpa using hg)
      simpa using this) fun n hn => hw n (.inr hn)
    refine ⟨(ya, yb), _, _, List.take_add, ?_, ?_⟩
    · rw [ha.1, ho] at hya; exact hya
    · rw [List.drop_drop]; exact hyb
theorem opens_struct {P : Program} {t : TypeId} {fs : Array Field} {α : Type} {d : Kd α} (ht : P.underlying t = some (.struct fs)) (hc : P.cellsOf t = d.sz) (hd : OpensF P fs.toList 0 d) : Opens P t d :=
  ⟨hc, fun H enc w base spare held fuel cs x h hw => by
    obtain ⟨xs, m, _, rfl, hl, hlen, hf⟩ := DataW.trod_struct ht h
    simp only [DataW.weights, ht] at hw
    obtain ⟨y, hy⟩ := hd H enc w base spare held m cs xs (by simpa using hlen) (fun i f hi => hf i f (by simpa using hi)) hw
    refine ⟨y, ?_⟩
    rw [List.drop_zero, List.take_of_length_le (by omega)] at hy
    exact hy⟩
/-- An ask: two ints. -/
def kAsk : Kd (Int × Int × Unit) := Kd.pair kInt (Kd.pair kInt Kd.unit)
theorem Row.ask {w : World} {S : Nat → Prop} {A : Option Addr} {xs : List (Int × Int × Unit)} (h : Row kAsk w S A xs) {j : Nat} (hj : j < xs.length) : ∃ ad, A = some ad ∧ w.cell? (ad.add (j * 2)) = some (.int .i64 xs[j].1) ∧ w.cell? (ad.add (j * 2 + 1)) = some (.int .i64 xs[j].2.1) ∧ I64 xs[j].1 ∧ I64 xs[j].2.1 := by
  obtain ⟨ad, cs, rfl, _, _, ⟨c1, c2, rfl, ⟨rfl, h1⟩, ⟨c3, c4, rfl, ⟨rfl, h2⟩, rfl⟩⟩, hc⟩ := h.get hj
  exact ⟨ad, rfl, by have := hc 0 _ rfl; simpa [kAsk, Kd.pair, kInt, Kd.scalar, Kd.unit] using this, by have := hc 1 _ rfl; simpa [kAsk, Kd.pair, kInt, Kd.scalar, Kd.unit] using this, h1, h2⟩
theorem oAsk : Opens Try.prog 59 kAsk := opens_struct Try.underlying59 (by kernel_rfl) (opensF_cons rfl oInt (opensF_cons rfl oInt opensF_nil))
end Go.Proofs.Ytikbpgcalmndoaa
