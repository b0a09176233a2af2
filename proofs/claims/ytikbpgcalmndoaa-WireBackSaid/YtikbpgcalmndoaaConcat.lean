/-
  slices.Grow and slices.Concat at []byte.
-/
import Derived.Test.YtikbpgcalmndoaaRefSum
import Derived.Test.YtikbpgcalmndoaaBytes
set_option linter.unusedVariables false
set_option linter.unusedSimpArgs false
namespace Go.Proofs.Ytikbpgcalmndoaa
open Go.RowKit

theorem run_append_zeros_nil {P : Program} (w : World) (t ti ty e : TypeId) (i : TypeInfo) (z : Value) (ht : P.underlying t = some (.slice e)) (hti : P.underlying ti = some (.int .i64)) (hi : P.info? e = some i) (hz : i.zero = some z)
    (hs : i.size = 1) (hb : i.bytes = 1) (n : Nat) (h0 : 0 < n) (h48 : n ≤ 140737488355328) :
    (Builtin.append_ #[t, ti] ty #[.slice none 0 0, .int .i64 (n : Int)]).run P w =
      .ok (.slice (some ⟨w.heap.size, 0, none⟩) n (grownCap w n 0 e)) (w.drew.alloc (.cells (Builtin.zeroCells z.cells n ++ Builtin.zeroCells z.cells (grownCap w n 0 e - n)) e)) := by
  have hn : n ≠ 0 := by omega
  have hw : IntKind.i64.wrap (n : Int) = n := by rw [IntKind.wrap_i64]; omega
  have h1 : ¬ ((n : Int) < 0) := by omega
  have h2 : ¬ (281474976710656 < (n : Int)) := by omega
  have h63' : ¬ (9223372036854775807 < (n : Int)) := by omega
  have h48' : ¬ (281474976710656 < Builtin.nextslicecap n 0) := by rw [nextslicecap_zero h0]; omega
  simp [Builtin.append_, run_underlying ht, run_underlying hti, sizeOf, typeInfo, zeroValue, hi, hz, hs, hb, asInt, asIntOf, hw, h1, h2, hn, h63', h48', Question.forced, run_firstCells_none, newRow, grownCap]

set_option maxHeartbeats 400000 in
theorem Grow_nil (w : World) (n : Nat) (hn : n ≤ 140737488355328) :
    Calls Try.prog 45 #[.slice none 0 0, .int .i64 (n : Int)] w fun e w' => ∃ u, e = .returned u ∧ Ow kByte 5 w' w.heap.size (w.heap.size ≤ ·) u [] ∧ Ext w w' := by
  rcases Nat.eq_zero_or_pos n with h0 | h0
  · subst h0
    go_enter Try.func45, Try.ntmps45
    go_wp2
    go_ret
    exact ⟨_, rfl, Ow.nil _ _ _ _ _, Ext.refl _⟩
  · obtain ⟨i, hi, hz0, hz1, hz2⟩ := info_parts tBytes.info
    have HZ := Lib.hid (run_append_zeros_nil (P := Try.prog) w 22 3 22 5 i _ tBytes.under Try.underlying3 hi hz0 hz1 hz2 n h0 hn)
    clear hi hz0 hz1 hz2
    go_enter Try.func45, Try.ntmps45
    go_wp2_with (at_builtin; refine wpList_append_run rfl (.tmp 20) (.tmp 21) 22 3 rfl _ _ rfl rfl _ _ HZ.out ?_)
    go_wp2
    go_ret
    refine ⟨_, rfl, ⟨fun k hk => by simp [Value.ownBlock] at hk; omega, by simp, [], World.ownsRow_made w.drew _ (grownCap w n 0 5) (Nat.le_refl _) (grownCap_le_maxLen w n 0 _ (by simp only [maxLen]; omega)) ?_, fun j x hj => by simp at hj⟩, (Ext.refl w).drew.alloc _⟩
    have := grownCap_ge w n 0 5
    simp only [Array.size_append, size_zeroCells, kByte, Kd.scalar]
    show n * 1 + (grownCap w n 0 5 - n) * 1 = grownCap w n 0 5 * 1
    omega

set_option maxHeartbeats 400000 in
theorem Concat_calls (w : World) (S : Nat → Prop) (v : Value) (ls : List (List UInt8)) (hr : Rs (kSlice kByte) w S v ls) (hsz : flen ls ≤ 140737488355328) :
    Calls Try.prog 25 #[v] w fun e w' => ∃ u, e = .returned u ∧ Ow kByte 5 w' w.heap.size (w.heap.size ≤ ·) u ls.flatten ∧ Ext w w' := by
  obtain ⟨A, c, rfl, hl, hc, hzl, hrow⟩ := hr.under
  have HR := Lib.hid hrow
  clear hrow hr
  go_enter Try.func25, Try.ntmps25
  go_wp2
  go_loop [3, 11] (fun n i => ∃ k : Nat, k ≤ ls.length ∧ i = .int .i64 k ∧ n = .int .i64 (flen (ls.take k) : Int)) (fun _ i => ls.length - (intOf i).toNat)
  case atStart => exact ⟨0, Nat.zero_le _, rfl, rfl⟩
  case round =>
    obtain ⟨k, hk, rfl, rfl⟩ := hrel
    by_cases hlt : k < ls.length
    · obtain ⟨ad, u, rfl, hcell, hu⟩ := HR.out.slice hlt
      obtain ⟨A1, c1, rfl, hl1, hc1, hz1, hrow1⟩ := hu
      have h1 : flen (ls.take (k + 1)) ≤ flen ls := flat_take_le ls (k + 1)
      have h2 := flen_succ ls k hlt
      have H2 := Lib.hid h2
      have h3 : flen (ls.take k) + ls[k].length ≤ 140737488355328 := by omega
      clear hrow1 h1 h2
      go_wp2
      go_round
      case rel => exact ⟨k + 1, by omega, by go_num, by rw [H2.out]; go_num⟩
      case measure => simp [intOf]; omega
    · obtain rfl : k = ls.length := by omega
      rw [List.take_length]
      clear hlt
      go_wp2_with fail
      refine (Grow_nil _ (flen ls) hsz).mono ?_
      rintro e w1 ⟨u, rfl, ho, he⟩
      have HO1 := Lib.hid ho
      have HE1 := Lib.hid he
      clear ho he
      go_wp2
      go_loopw [6, 27] (fun u i wr => ∃ k : Nat, k ≤ ls.length ∧ i = .int .i64 k ∧ Hid (Ow kByte 5 wr w.heap.size (w.heap.size ≤ ·) u (ls.take k).flatten) ∧ Hid (Ext w wr)) (fun _ i _ => ls.length - (intOf i).toNat)
      case atStart => exact ⟨0, Nat.zero_le _, rfl, HO1, HE1⟩
      case round =>
        obtain ⟨k, hk, rfl, HO, HE⟩ := hrel
        by_cases hlt : k < ls.length
        · have hrow2 := HR.out.keep (w' := wr) fun b hb _ => HE.out.block b hb
          obtain ⟨ad, u, rfl, hcell, hu⟩ := hrow2.slice hlt
          have HU := Lib.hid hu
          have h1 : flen (ls.take (k + 1)) ≤ flen ls := flat_take_le ls (k + 1)
          have h2 := flen_succ ls k hlt
          have h3 : flen (ls.take k) + ls[k].length ≤ 140737488355328 := by omega
          have H3 := Lib.hid h3
          clear h1 h2 h3 hrow2 hu
          have HS := Lib.hid (flat_take_succ ls k hlt)
          go_wp2_with (at_builtin; refine wpList_append_Rs kByte rfl (.tmp 31) (.tmp 32) 22 5 rfl tBytes w.heap.size _ _ _ _ _ _ rfl rfl HO.out HU.out ?c1 ?c2 ?c3 HE.out.le ?_)
          case c1 => exact fun _ _ h => h
          case c2 => intro b hb; have := HE.out.le; omega
          case c3 => have := H3.out; unfold flen at this; omega
          intro v' w' ho hg hat
          have HO' := Lib.hid ho
          have HE' := Lib.hid (HE.out.grown hg HO.out.from_)
          rw [← HS.out] at HO'
          clear ho hg hat HO HE
          go_wp2
          go_roundw
          case rel => exact ⟨k + 1, by omega, by go_num, HO', HE'⟩
          case measure => simp [intOf]; omega
        · obtain rfl : k = ls.length := by omega
          rw [List.take_length] at HO
          clear hlt
          go_wp2
          go_ret
          exact ⟨_, rfl, HO.out, HE.out⟩
end Go.Proofs.Ytikbpgcalmndoaa
