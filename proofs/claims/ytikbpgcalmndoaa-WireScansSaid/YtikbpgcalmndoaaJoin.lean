/-
  wire.Join: all parts, one behind the other.
-/
import Derived.Test.YtikbpgcalmndoaaTypes
set_option linter.unusedVariables false
set_option linter.unusedSimpArgs false
namespace Go.Proofs.Ytikbpgcalmndoaa
open Go.RowKit

theorem flat_take_succ {α : Type} (ls : List (List α)) (k : Nat) (hk : k < ls.length) : (ls.take (k + 1)).flatten = (ls.take k).flatten ++ ls[k] := by
  rw [List.take_succ_eq_append_getElem hk, List.flatten_append]; simp
theorem flat_take_le {α : Type} (ls : List (List α)) (k : Nat) : (ls.take k).flatten.length ≤ ls.flatten.length := by
  conv => rhs; rw [← List.take_append_drop k ls, List.flatten_append, List.length_append]
  omega

/-- How many there are in all. -/
def flen {α : Type} (ls : List (List α)) : Nat := ls.flatten.length
theorem flen_succ {α : Type} (ls : List (List α)) (k : Nat) (hk : k < ls.length) : flen (ls.take (k + 1)) = flen (ls.take k) + ls[k].length := by
  unfold flen; rw [flat_take_succ ls k hk, List.length_append]

set_option maxHeartbeats 400000 in
theorem Join_calls (w : World) (S : Nat → Prop) (v : Value) (ls : List (List UInt8)) (hr : Rs (kSlice kByte) w S v ls) (hsz : flen ls ≤ 140737488355328) :
    Calls Try.prog 23 #[v] w fun e w' => ∃ u, e = .returned u ∧ Ow kByte 5 w' w.heap.size (w.heap.size ≤ ·) u ls.flatten ∧ Ext w w' := by
  obtain ⟨A, c, rfl, hl, hc, hzl, hrow⟩ := hr.under
  have HR := Lib.hid hrow
  clear hrow hr
  have hmk : ∀ W : World, (Instr.makeSlice 22 (.int .i64 0) (.int .i64 (flen ls : Int))).run Try.prog W = .ok (.slice (some ⟨W.heap.size, 0, none⟩) 0 (flen ls)) (W.alloc (.cells (madeCells #[.int .u8 0] (flen ls)) 5)) := fun W => by
    obtain ⟨i, hi, hz0, hz1, hz2⟩ := info_parts tBytes.info
    have h := run_make (P := Try.prog) W 22 5 i (.int .u8 0) tBytes.under hi hz0 .i64 .i64 0 (flen ls : Int) (by omega) (by omega) (by rw [hz2]; omega) (by omega)
    simpa [hz1, Value.cells] using h
  have Hmk := Lib.hid hmk
  clear hmk
  go_enter Try.func23, Try.ntmps23
  go_wp2
  go_loop [3, 11] (fun n i => ∃ k : Nat, k ≤ ls.length ∧ i = .int .i64 k ∧ n = .int .i64 (flen (ls.take k) : Int)) (fun _ i => ls.length - (intOf i).toNat)
  case atStart => exact ⟨0, Nat.zero_le _, rfl, rfl⟩
  case round =>
    obtain ⟨k, hk, rfl, rfl⟩ := hrel
    by_cases hlt : k < ls.length
    · obtain ⟨ad, u, rfl, hcell, hu⟩ := HR.out.slice hlt
      obtain ⟨A1, c1, rfl, hl1, hc1, hz1, hrow1⟩ := hu
      have h1 : flen (ls.take (k + 1)) ≤ flen ls := flat_take_le ls (k + 1)
      have h2 := flen_succ ls k hlt
      have H2 := Lib.hid h2
      have h3 : flen (ls.take k) + ls[k].length ≤ 140737488355328 := by omega
      clear hrow1 h1 h2
      go_wp2
      go_round
      case rel => exact ⟨k + 1, by omega, by go_num, by rw [H2.out]; go_num⟩
      case measure => simp [intOf]; omega
    · obtain rfl : k = ls.length := by omega
      rw [List.take_length]
      clear hlt
      have hmk := Hmk.out
      go_wp2
      go_loopw [6, 24] (fun u i wr => ∃ k : Nat, k ≤ ls.length ∧ i = .int .i64 k ∧ Hid (Ow kByte 5 wr w.heap.size (w.heap.size ≤ ·) u (ls.take k).flatten) ∧ Hid (Ext w wr)) (fun _ i _ => ls.length - (intOf i).toNat)
      case atStart => 
        refine ⟨0, Nat.zero_le _, rfl, ?_, Lib.hid ((Ext.refl w).alloc _)⟩
        refine Lib.hid ⟨fun k hk => by simp [Value.ownBlock] at hk; omega, by simp, [], World.ownsRow_made w _ (flen ls) (Nat.le_refl _) (by simp only [maxLen]; omega) (by simp [size_madeCells, kByte, Kd.scalar]), fun j x hj => by simp at hj⟩
      case round =>
        obtain ⟨k, hk, rfl, HO, HE⟩ := hrel
        by_cases hlt : k < ls.length
        · have hrow2 := HR.out.keep (w' := wr) fun b hb _ => HE.out.block b hb
          obtain ⟨ad, u, rfl, hcell, hu⟩ := hrow2.slice hlt
          have HU := Lib.hid hu
          have h1 : flen (ls.take (k + 1)) ≤ flen ls := flat_take_le ls (k + 1)
          have h2 := flen_succ ls k hlt
          have h3 : flen (ls.take k) + ls[k].length ≤ 140737488355328 := by omega
          have H3 := Lib.hid h3
          clear h1 h2 h3 hrow2 hu
          have HS := Lib.hid (flat_take_succ ls k hlt)
          go_wp2_with (at_builtin; refine wpList_append_Rs kByte rfl (.tmp 28) (.tmp 29) 22 5 rfl tBytes w.heap.size _ _ _ _ _ _ rfl rfl HO.out HU.out ?c1 ?c2 ?c3 HE.out.le ?_)
          case c1 => exact fun _ _ h => h
          case c2 => intro b hb; have := HE.out.le; omega
          case c3 => have := H3.out; unfold flen at this; omega
          intro v' w' ho hg hat
          have HO' := Lib.hid ho
          have HE' := Lib.hid (HE.out.grown hg HO.out.from_)
          rw [← HS.out] at HO'
          clear ho hg hat HO HE
          go_wp2
          go_roundw
          case rel => exact ⟨k + 1, by omega, by go_num, HO', HE'⟩
          case measure => simp [intOf]; omega
        · obtain rfl : k = ls.length := by omega
          rw [List.take_length] at HO
          clear hlt
          go_wp2
          go_ret
          exact ⟨_, rfl, HO.out, HE.out⟩
end Go.Proofs.Ytikbpgcalmndoaa
